/- Plain laws of law09: a pair in composed zones has a time between, among the middles of the ends. No condition. -/
import Derived.Test.YtbgbhfcnadjhdaaL2
import Derived.Test.YtbgbhfcnadjhdaaM4
namespace Go.Proofs.Ytbgbhfcnadjhdaa
set_option linter.unusedSimpArgs false
set_option linter.unusedVariables false
open Go Go.RowKit

/-- A sum in lowest terms that may be. -/
theorem normR_good {T G : Int} (hG : 0 < G) (hG2 : G ≤ 1048576) (h1 : -2305843009213693952 < T) (h2 : T < 2305843009213693952) : ∃ t D, normR T G = (t, D, 0) ∧ t.natAbs ≤ T.natAbs ∧ D ≤ G := by
  obtain ⟨g, hg⟩ : ∃ g, g = Nat.gcd T.natAbs G.natAbs := ⟨_, rfl⟩
  have hg0 : 0 < g := by rw [hg]; exact Nat.gcd_pos_of_pos_right _ (by omega)
  obtain ⟨D, hD⟩ : (g : Int) ∣ G := by rw [hg]; exact gcd_dvd_r T G
  obtain ⟨t, ht⟩ : (g : Int) ∣ T := by rw [hg]; exact gcd_dvd_l T G
  have hgi : (g : Int) ≠ 0 := by omega
  have eD : G / (g : Int) = D := by rw [hD, Int.mul_ediv_cancel_left _ hgi]
  have et : T / (g : Int) = t := by rw [ht, Int.mul_ediv_cancel_left _ hgi]
  have hco := div_gcd_co T G hG
  rw [← hg, eD, et] at hco
  have hD0 : 0 < D := by rw [hD] at hG; exact Int.pos_of_mul_pos_right hG (by omega)
  have hDG : D ≤ G := by
    rw [hD]
    have : 1 * D ≤ (g : Int) * D := Int.mul_le_mul_of_nonneg_right (by omega) (by omega)
    omega
  have hta : t.natAbs ≤ T.natAbs := by
    rw [ht, Int.natAbs_mul]
    simp only [Int.natAbs_natCast]
    exact Nat.le_mul_of_pos_left _ hg0
  have w1 : -2305843009213693952 ≤ t / D := by
    have : (-2305843009213693952 : Int) ≤ t := by omega
    by_cases h0 : 0 ≤ t
    · have := Int.ediv_nonneg h0 (by omega : 0 ≤ D); omega
    · have k1 : t * D ≤ t * 1 := Int.mul_le_mul_of_nonpos_left (by omega) (by omega)
      have k2 : t ≤ t / D := Int.le_ediv_of_mul_le hD0 (by omega)
      omega
  have w2 : t / D < 2305843009213693952 := by
    by_cases h0 : 0 ≤ t
    · have := Int.ediv_le_self D h0; omega
    · have : t / D < 0 := Int.ediv_neg_of_neg_of_pos (by omega) hD0
      omega
  refine ⟨t, D, ?_, hta, hDG⟩
  unfold normR
  rw [← hg, et, eD, if_pos]
  refine ⟨⟨by omega, by omega⟩, ?_⟩
  unfold okRat withinB
  simp only [Bool.and_eq_true, decide_eq_true_eq]
  exact ⟨by omega, by omega, ⟨w1, .inl w2⟩, hco⟩
theorem addPR_good {n1 d1 n2 d2 k : Int} (o1 : okRat n1 d1 = true) (o2 : okRat n2 d2 = true) (hk : 0 < k) (hG : d1 * d2 * k ≤ 1048576) (h1 : -2305843009213693952 < n1 * d2 + n2 * d1) (h2 : n1 * d2 + n2 * d1 < 2305843009213693952) :
    ∃ t D, addPR n1 d1 n2 d2 k = (t, D, 0) ∧ okRat t D = true ∧ t.natAbs ≤ (n1 * d2 + n2 * d1).natAbs ∧ 0 < D ∧ D ≤ d1 * d2 * k ∧ t * (d1 * d2 * k) = (n1 * d2 + n2 * d1) * D := by
  have p1 := (okRat_bd o1).1
  have p2 := (okRat_bd o2).1
  have hpos : 0 < d1 * d2 * k := Int.mul_pos (Int.mul_pos (by omega) (by omega)) hk
  obtain ⟨t, D, e, b1, b2⟩ := normR_good hpos hG h1 h2
  have he : addPR n1 d1 n2 d2 k = (t, D, 0) := by unfold addPR sumR; rw [o1, o2, Bool.and_self, if_pos rfl, e]
  rcases addPR_spec hk he with ⟨_, _, _, _, os, es, hD, _, _⟩ | ⟨h, _⟩
  · exact ⟨t, D, he, os, b1, hD, b2, es⟩
  · exact absurd rfl h
/-- A bound between two times over one denominator. -/
theorem kept_rep {F x1 x2 y1 y2 X Y c : Int} (hF : 0 < F) (h1 : 0 < x2) (h2 : 0 < y2) (hx : x1 * F = X * x2) (hy : y1 * F = Y * y2) (hc : c ≠ noneB) :
    keptB x1 x2 y1 y2 c = true ↔ X - Y < bnum c * F ∨ (X - Y = bnum c * F ∧ c % 2 ≠ 0) := by
  have e := kept_of_diff (x := c) (n1 := x1) (d1 := x2) (n2 := y1) (d2 := y2) (m1 := X) (e1 := F) (m2 := Y) (e2 := F) (Int.mul_pos h1 h2) (Int.mul_pos hF hF) (by
    have a : x1 * y2 * (F * F) = X * F * (x2 * y2) := by
      have : x1 * y2 * (F * F) = (x1 * F) * (y2 * F) := by simp only [Int.mul_assoc]; congr 1; rw [← Int.mul_assoc, ← Int.mul_assoc, Int.mul_comm y2 F]
      rw [this, hx]; simp only [Int.mul_assoc]; congr 1; rw [← Int.mul_assoc, Int.mul_comm]
    have b : y1 * x2 * (F * F) = Y * F * (x2 * y2) := by
      have : y1 * x2 * (F * F) = (y1 * F) * (x2 * F) := by simp only [Int.mul_assoc]; congr 1; rw [← Int.mul_assoc, ← Int.mul_assoc, Int.mul_comm x2 F]
      rw [this, hy]; simp only [Int.mul_assoc]; congr 1; rw [← Int.mul_assoc, Int.mul_comm, Int.mul_comm y2 x2]
    rw [Int.sub_mul, Int.sub_mul, a, b])
  rw [e]
  unfold keptB
  have r : X * F - Y * F = (X - Y) * F := (Int.sub_mul X Y F).symm
  have k1 : X * F - Y * F < bnum c * (F * F) ↔ X - Y < bnum c * F := by rw [r, ← Int.mul_assoc]; exact (mul_lt_pos hF).symm
  have k2 : X * F - Y * F = bnum c * (F * F) ↔ X - Y = bnum c * F := by rw [r, ← Int.mul_assoc]; exact (mul_eq_pos hF).symm
  simp only [decide_eq_false hc, Bool.false_or, Bool.or_eq_true, Bool.and_eq_true, decide_eq_true_eq, k1, k2, bstr, Bool.not_eq_true', decide_eq_false_iff_not, ne_eq]
/-- The greatest of some. -/
theorem great : ∀ (n : Nat) (f : Nat → Int), 0 < n → ∃ i, i < n ∧ ∀ j, j < n → f j ≤ f i
  | 1, f, _ => ⟨0, by omega, fun j hj => by obtain rfl : j = 0 := by omega
                                            exact Int.le_refl _⟩
  | n + 2, f, _ => by
    obtain ⟨i, hi, h⟩ := great (n + 1) f (by omega)
    by_cases hc : f i ≤ f (n + 1)
    · refine ⟨n + 1, by omega, fun j hj => ?_⟩
      by_cases e : j = n + 1
      · subst e; exact Int.le_refl _
      · have := h j (by omega); omega
    · refine ⟨i, by omega, fun j hj => ?_⟩
      by_cases e : j = n + 1
      · subst e; omega
      · exact h j (by omega)
/-- Where a pair stands over one denominator: 0, t, u. -/
def numP (T U : Int × Int) : Nat → Int
  | 0 => 0 | 1 => T.1 * U.2 | _ => U.1 * T.2
def ratP (T U : Int × Int) : Nat → Int × Int
  | 0 => (0, 1) | 1 => T | _ => U
/-- The clocks at which the ends stand, and the bounds: four from below (0 - s, t - s, 0 - s, u - s), four from above. -/
def loK : Nat → Nat
  | 0 => 0 | 1 => 1 | 2 => 0 | _ => 2
def loC (a b : Nat → Int) : Nat → Int
  | 0 => a 3 | 1 => a 5 | 2 => b 1 | _ => b 4
def hiC (a b : Nat → Int) : Nat → Int
  | 0 => a 2 | 1 => a 4 | 2 => b 0 | _ => b 5
def smallB (x : Int) : Prop := x ≠ noneB ∧ -1099511627776 ≤ x ∧ x ≤ 1099511627776
theorem bnum_small {x : Int} (h : smallB x) : -549755813888 ≤ bnum x ∧ bnum x ≤ 549755813888 := by
  obtain ⟨_, h1, h2⟩ := h
  unfold bnum; omega
theorem pt_zero (T U : Int × Int) : ∀ k, k < 3 → tm (pt T.1 T.2 U.1 U.2) k = ratP T U k := by
  intro k hk
  have : k = 0 ∨ k = 1 ∨ k = 2 := by omega
  rcases this with rfl | rfl | rfl <;> rfl
theorem numP_rep {T U : Int × Int} (hT : 0 < T.2) (hU : 0 < U.2) : ∀ k, k < 3 → 0 < (ratP T U k).2 ∧ (ratP T U k).1 * (T.2 * U.2) = numP T U k * (ratP T U k).2 := by
  intro k hk
  have : k = 0 ∨ k = 1 ∨ k = 2 := by omega
  rcases this with rfl | rfl | rfl
  · exact ⟨by show (0 : Int) < 1; omega, by show (0 : Int) * _ = 0 * _; rw [Int.zero_mul, Int.zero_mul]⟩
  · exact ⟨hT, by show T.1 * (T.2 * U.2) = T.1 * U.2 * T.2; rw [Int.mul_comm T.2, Int.mul_assoc]⟩
  · exact ⟨hU, by show U.1 * (T.2 * U.2) = U.1 * T.2 * U.2; rw [Int.mul_assoc]⟩
theorem loK_lt (i : Nat) : loK i < 3 := by
  match i with
  | 0 => decide
  | 1 => decide
  | 2 => decide
  | n + 3 => exact (by decide : 2 < 3)
/-- The ends from below and above leave room for one another. -/
theorem room_law {a b : Nat → Int} {T U : Int × Int} (hT : 0 < T.2) (hU : 0 < U.2) (sa : ∀ i, i < 6 → smallB (a i)) (sb : ∀ i, i < 6 → smallB (b i)) (h : CompIn a b (tmE (pt T.1 T.2 U.1 U.2))) : ∀ i j, i < 4 → j < 4 →
    (numP T U (loK i) - bnum (loC a b i) * (T.2 * U.2) < numP T U (loK j) + bnum (hiC a b j) * (T.2 * U.2) ∨
      (numP T U (loK i) - bnum (loC a b i) * (T.2 * U.2) = numP T U (loK j) + bnum (hiC a b j) * (T.2 * U.2) ∧ loC a b i % 2 ≠ 0 ∧ hiC a b j % 2 ≠ 0)) := by
  obtain ⟨Q, q1, q2, q3, q4⟩ := h
  have A := (ZU_iff (res_closed q1 (a := 0) (b := 1) (c := 2) (by simp) (by simp) (by simp))).1 q2
  have B := (ZU_iff (res_closed q1 (a := 0) (b := 2) (c := 3) (by simp) (by simp) (by simp))).1 q3
  have A' : ele (Q 1 0) (eb (a 0)) ∧ ele (Q 0 1) (eb (a 1)) ∧ ele (Q 2 0) (eb (a 2)) ∧ ele (Q 0 2) (eb (a 3)) ∧ ele (Q 2 1) (eb (a 4)) ∧ ele (Q 1 2) (eb (a 5)) := A
  have B' : ele (Q 2 0) (eb (b 0)) ∧ ele (Q 0 2) (eb (b 1)) ∧ ele (Q 3 0) (eb (b 2)) ∧ ele (Q 0 3) (eb (b 3)) ∧ ele (Q 3 2) (eb (b 4)) ∧ ele (Q 2 3) (eb (b 5)) := B
  obtain ⟨a0, a1, a2, a3, a4, a5⟩ := A'
  obtain ⟨b0, b1, b2, b3, b4, b5⟩ := B'
  -- the clock of Q that stands for one of the pair's
  have lo : ∀ i, i < 4 → ele (Q (sel 0 1 3 (loK i)) 2) (some (loC a b i)) ∧ smallB (loC a b i) := by
    intro i hi
    have : i = 0 ∨ i = 1 ∨ i = 2 ∨ i = 3 := by omega
    rcases this with rfl | rfl | rfl | rfl
    · exact ⟨by have h := a3; rw [eb_some (sa 3 (by omega)).1] at h; exact h, sa 3 (by omega)⟩
    · exact ⟨by have h := a5; rw [eb_some (sa 5 (by omega)).1] at h; exact h, sa 5 (by omega)⟩
    · exact ⟨by have h := b1; rw [eb_some (sb 1 (by omega)).1] at h; exact h, sb 1 (by omega)⟩
    · exact ⟨by have h := b4; rw [eb_some (sb 4 (by omega)).1] at h; exact h, sb 4 (by omega)⟩
  have hi : ∀ i, i < 4 → ele (Q 2 (sel 0 1 3 (loK i))) (some (hiC a b i)) ∧ smallB (hiC a b i) := by
    intro i hi
    have : i = 0 ∨ i = 1 ∨ i = 2 ∨ i = 3 := by omega
    rcases this with rfl | rfl | rfl | rfl
    · exact ⟨by have h := a2; rw [eb_some (sa 2 (by omega)).1] at h; exact h, sa 2 (by omega)⟩
    · exact ⟨by have h := a4; rw [eb_some (sa 4 (by omega)).1] at h; exact h, sa 4 (by omega)⟩
    · exact ⟨by have h := b0; rw [eb_some (sb 0 (by omega)).1] at h; exact h, sb 0 (by omega)⟩
    · exact ⟨by have h := b5; rw [eb_some (sb 5 (by omega)).1] at h; exact h, sb 5 (by omega)⟩
  have selm : ∀ k, sel 0 1 3 k ∈ [0, 1, 2, 3] := fun k => sel_mem (by simp) (by simp) (by simp) k
  intro i j hi4 hj4
  obtain ⟨l1, l2⟩ := lo i hi4
  obtain ⟨h1, h2⟩ := hi j hj4
  have t := q1.2 _ _ _ (selm (loK i)) (selm (loK j)) (by simp : 2 ∈ [0, 1, 2, 3])
  have t2 := ele_trans t (eadd_mono l1 h1)
  have e : Q (sel 0 1 3 (loK i)) (sel 0 1 3 (loK j)) = tmE (pt T.1 T.2 U.1 U.2) (loK i) (loK j) := q4 _ _ (loK_lt i) (loK_lt j)
  rw [e] at t2
  obtain ⟨z, hz⟩ : ∃ z, z = 2 * (loC a b i / 2 + hiC a b j / 2) + (if loC a b i % 2 = 0 ∨ hiC a b j % 2 = 0 then 0 else 1) := ⟨_, rfl⟩
  have hz2 : eadd (some (loC a b i)) (some (hiC a b j)) = some z := by rw [hz]; rfl
  have bl := bnum_small l2
  have bh := bnum_small h2
  unfold bnum at bl bh
  have zn : z ≠ noneB := by
    have : noneB = 9223372036854775807 := rfl
    rw [hz, this]; split <;> omega
  have zb : bnum z = bnum (loC a b i) + bnum (hiC a b j) := by rw [hz]; unfold bnum; split <;> omega
  have zo : z % 2 ≠ 0 ↔ loC a b i % 2 ≠ 0 ∧ hiC a b j % 2 ≠ 0 := by rw [hz]; split <;> omega
  obtain ⟨p1, r1⟩ := numP_rep hT hU _ (loK_lt i)
  obtain ⟨p2, r2⟩ := numP_rep hT hU _ (loK_lt j)
  have hE : 0 < T.2 * U.2 := Int.mul_pos hT hU
  have hk : keptB (ratP T U (loK i)).1 (ratP T U (loK i)).2 (ratP T U (loK j)).1 (ratP T U (loK j)).2 z = true := by
    rw [keptB_iff p1 p2, eb_some zn, ← hz2]
    have : tmE (pt T.1 T.2 U.1 U.2) (loK i) (loK j) = some (leastB ((ratP T U (loK i)).1 * (ratP T U (loK j)).2 - (ratP T U (loK j)).1 * (ratP T U (loK i)).2) ((ratP T U (loK i)).2 * (ratP T U (loK j)).2)) := by
      unfold tmE
      rw [pt_zero T U _ (loK_lt i), pt_zero T U _ (loK_lt j)]
    rw [← this]; exact t2
  rw [kept_rep hE p1 p2 r1 r2 zn, zb, Int.add_mul, zo] at hk
  rcases hk with hk | ⟨hk, ho⟩
  · left; omega
  · right; exact ⟨by omega, ho⟩

def fromE (T U : Int × Int) : Nat → Int × Int
  | 0 => (0, 1) | 1 => (0, 1) | 2 => T | 3 => T | 4 => (0, 1) | 5 => (0, 1) | _ => U
def byE (a b : Nat → Int) : Nat → Int
  | 0 => a 2 | 1 => a 3 | 2 => a 4 | 3 => a 5 | 4 => b 0 | 5 => b 1 | 6 => b 4 | _ => b 5
def sgE : Nat → Int
  | 0 => 1 | 1 => -1 | 2 => 1 | 3 => -1 | 4 => 1 | 5 => -1 | 6 => -1 | _ => 1
/-- An end, or the error. -/
def endE (x : Int × Int) (b s : Int) : Int × Int × Int := addPR x.1 x.2 (s * bnum b) 1 1
def endX (a b : Nat → Int) (T U : Int × Int) (i : Nat) : Int × Int × Int := endE (fromE T U i) (byE a b i) (sgE i)
def fitsE (a b : Nat → Int) (T U m : Int × Int) : Bool :=
  decide ((hasZ a (pt T.1 T.2 m.1 m.2)).2 = 0) && (decide ((hasZ b (pt m.1 m.2 U.1 U.2)).2 = 0) && ((hasZ a (pt T.1 T.2 m.1 m.2)).1 && (hasZ b (pt m.1 m.2 U.1 U.2)).1))
def hitE (a b : Nat → Int) (T U x y : Int × Int) : Bool :=
  decide ((addPR x.1 x.2 y.1 y.2 2).2.2 = 0) && fitsE a b T U ((addPR x.1 x.2 y.1 y.2 2).1, (addPR x.1 x.2 y.1 y.2 2).2.1)
def nthR (L : List (Int × Int)) (i : Nat) : Int × Int := L.getD i (0, 0)
/-- The ends that may be. -/
def endsL (a b : Nat → Int) (T U : Int × Int) : Nat → List (Int × Int)
  | 0 => []
  | k + 1 => if (endX a b T U k).2.2 = 0 then endsL a b T U k ++ [((endX a b T U k).1, (endX a b T U k).2.1)] else endsL a b T U k
def rowE (a b : Nat → Int) (T U : Int × Int) (L : List (Int × Int)) (i : Nat) : Bool := (List.range (i + 1)).any fun k => hitE a b T U (nthR L i) (nthR L k)
def betweenE (a b : Nat → Int) (T U : Int × Int) (L : List (Int × Int)) : Bool := (List.range L.length).any fun i => rowE a b T U L i
theorem between_iff {a b : Nat → Int} {T U : Int × Int} {L : List (Int × Int)} : betweenE a b T U L = true ↔ ∃ i k, i < L.length ∧ k ≤ i ∧ hitE a b T U (nthR L i) (nthR L k) = true := by
  unfold betweenE rowE
  simp only [List.any_eq_true, List.mem_range]
  constructor
  · rintro ⟨i, hi, k, hk, h⟩; exact ⟨i, k, hi, by omega, h⟩
  · rintro ⟨i, k, hi, hk, h⟩; exact ⟨i, hi, k, by omega, h⟩
theorem hit_comm (a b : Nat → Int) (T U x y : Int × Int) : hitE a b T U x y = hitE a b T U y x := by
  unfold hitE
  rw [addPR_comm]
theorem fitsE_iff {a b : Nat → Int} {T U m : Int × Int} : fitsE a b T U m = true ↔ okZ a = true ∧ okZ b = true ∧ okRat T.1 T.2 = true ∧ okRat m.1 m.2 = true ∧ okRat U.1 U.2 = true ∧ keptAll 3 (zF a) (pt T.1 T.2 m.1 m.2) = true ∧ keptAll 3 (zF b) (pt m.1 m.2 U.1 U.2) = true := by
  unfold fitsE
  simp only [Bool.and_eq_true, decide_eq_true_eq]
  constructor
  · rintro ⟨h1, h2, h3, h4⟩
    obtain ⟨g1, g2, g3⟩ := hasZ_ok (b := (hasZ a (pt T.1 T.2 m.1 m.2)).1) (Prod.ext rfl h1)
    obtain ⟨k1, k2, k3⟩ := hasZ_ok (b := (hasZ b (pt m.1 m.2 U.1 U.2)).1) (Prod.ext rfl h2)
    rw [rat2, Bool.and_eq_true] at g2 k2
    exact ⟨g1, k1, g2.1, g2.2, k2.2, by rw [← g3]; exact h3, by rw [← k3]; exact h4⟩
  · rintro ⟨h1, h2, h3, h4, h5, h6, h7⟩
    rw [hasZ_of h1 (by rw [rat2, Bool.and_eq_true]; exact ⟨h3, h4⟩), hasZ_of h2 (by rw [rat2, Bool.and_eq_true]; exact ⟨h4, h5⟩)]
    exact ⟨rfl, rfl, h6, h7⟩
def pt3 (T m U : Int × Int) : Nat → Int × Int
  | 0 => T | 1 => m | _ => U
/-- A time between: the pair is in what is composed. -/
theorem fits_comp {a b : Nat → Int} {T U m : Int × Int} (h : fitsE a b T U m = true) : CompIn a b (tmE (pt T.1 T.2 U.1 U.2)) := by
  obtain ⟨h1, h2, h3, h4, h5, h6, h7⟩ := fitsE_iff.1 h
  have pT := (okRat_bd h3).1
  have pm := (okRat_bd h4).1
  have pU := (okRat_bd h5).1
  have hp : ∀ i, i < 4 → 0 < (tm (pt3 T m U) i).2 := fun i hi => by
    have : i = 0 ∨ i = 1 ∨ i = 2 ∨ i = 3 := by omega
    rcases this with rfl | rfl | rfl | rfl
    · show (0 : Int) < 1; omega
    · show 0 < T.2; omega
    · show 0 < m.2; omega
    · show 0 < U.2; omega
  have pos : ∀ {x y : Int × Int}, 0 < x.2 → 0 < y.2 → ∀ i, i < 3 → 0 < (tm (pt x.1 x.2 y.1 y.2) i).2 := fun {x y} hx hy i hi => by
    have : i = 0 ∨ i = 1 ∨ i = 2 := by omega
    rcases this with rfl | rfl | rfl
    · show (0 : Int) < 1; omega
    · exact hx
    · exact hy
  have k6 := (kept_under (pos (by omega) (by omega))).1 h6
  have k7 := (kept_under (pos (by omega) (by omega))).1 h7
  refine ⟨tmE (pt3 T m U), closed4.1 (tmE_closed hp), ?_, ?_, ?_⟩
  · refine ZU_le (fun i j hi hj => ?_) k6
    have hi : i = 0 ∨ i = 1 ∨ i = 2 := by omega
    have hj : j = 0 ∨ j = 1 ∨ j = 2 := by omega
    rcases hi with rfl | rfl | rfl <;> rcases hj with rfl | rfl | rfl <;> exact ele_refl _
  · refine ZU_le (fun i j hi hj => ?_) k7
    have hi : i = 0 ∨ i = 1 ∨ i = 2 := by omega
    have hj : j = 0 ∨ j = 1 ∨ j = 2 := by omega
    rcases hi with rfl | rfl | rfl <;> rcases hj with rfl | rfl | rfl <;> exact ele_refl _
  · intro i j hi hj
    have hi : i = 0 ∨ i = 1 ∨ i = 2 := by omega
    have hj : j = 0 ∨ j = 1 ∨ j = 2 := by omega
    rcases hi with rfl | rfl | rfl <;> rcases hj with rfl | rfl | rfl <;> rfl
theorem between_comp {a b : Nat → Int} {T U : Int × Int} {L : List (Int × Int)} (h : betweenE a b T U L = true) : CompIn a b (tmE (pt T.1 T.2 U.1 U.2)) ∧ okRat T.1 T.2 = true ∧ okRat U.1 U.2 = true := by
  obtain ⟨i, k, _, _, h⟩ := between_iff.1 h
  unfold hitE at h
  rw [Bool.and_eq_true] at h
  have := fitsE_iff.1 h.2
  exact ⟨fits_comp h.2, this.2.2.1, this.2.2.2.2.1⟩
theorem abs_of {x K : Int} (h1 : -K ≤ x) (h2 : x ≤ K) : x.natAbs ≤ K.natAbs := by omega
/-- An end that may be, over one denominator. -/
theorem end_good {x : Int × Int} {X E b s : Int} (o : okRat x.1 x.2 = true) (h7 : x.2 ≤ 700) (hx : x.1.natAbs ≤ 384829069721600) (hE : 0 < E) (hr : x.1 * E = X * x.2) (sb : smallB b) (hs : s = 1 ∨ s = -1) :
    ∃ n d, endE x b s = (n, d, 0) ∧ okRat n d = true ∧ 0 < d ∧ d ≤ 700 ∧ n.natAbs ≤ 769658139443200 ∧ n * E = (X + s * bnum b * E) * d := by
  have b1 := bnum_small sb
  have p := (okRat_bd o).1
  obtain ⟨c, hc⟩ : ∃ c, c = s * bnum b := ⟨_, rfl⟩
  have c1 : -549755813888 ≤ c ∧ c ≤ 549755813888 := by rcases hs with rfl | rfl <;> omega
  have oc : okRat c 1 = true := by
    unfold okRat withinB
    simp only [Bool.and_eq_true, decide_eq_true_eq, Int.ediv_one]
    refine ⟨by omega, by omega, ⟨by omega, .inl (by omega)⟩, ?_⟩
    simp
  have cx : (c * x.2).natAbs ≤ 384829069721600 := by
    rw [Int.natAbs_mul]
    have := Nat.mul_le_mul (show c.natAbs ≤ 549755813888 by omega) (show x.2.natAbs ≤ 700 by omega)
    omega
  have hsum : x.1 * 1 + c * x.2 = x.1 + c * x.2 := by rw [Int.mul_one]
  obtain ⟨t, D, e, ot, ta, tp, tD, te⟩ := addPR_good (k := 1) o oc (by omega) (by omega) (by rw [hsum]; omega) (by rw [hsum]; omega)
  refine ⟨t, D, by unfold endE; rw [← hc]; exact e, ot, tp, by omega, by rw [hsum] at ta; omega, ?_⟩
  simp only [Int.mul_one] at te
  rw [← hc]
  refine Int.eq_of_mul_eq_mul_right (a := x.2) (by omega) ?_
  calc t * E * x.2 = t * x.2 * E := Int.mul_right_comm _ _ _
    _ = (x.1 + c * x.2) * D * E := by rw [te]
    _ = (x.1 * E + c * x.2 * E) * D := by rw [Int.mul_right_comm, Int.add_mul]
    _ = (X * x.2 + c * E * x.2) * D := by rw [hr, Int.mul_right_comm c]
    _ = (X + c * E) * D * x.2 := by rw [← Int.add_mul, Int.mul_right_comm]
/-- The middle of two ends. -/
theorem mid_good {n1 d1 n2 d2 L H E : Int} (o1 : okRat n1 d1 = true) (o2 : okRat n2 d2 = true) (h1 : 0 < d1) (h2 : 0 < d2) (g1 : d1 ≤ 700) (g2 : d2 ≤ 700) (a1 : n1.natAbs ≤ 769658139443200) (a2 : n2.natAbs ≤ 769658139443200) (r1 : n1 * E = L * d1) (r2 : n2 * E = H * d2) :
    ∃ m D, addPR n1 d1 n2 d2 2 = (m, D, 0) ∧ okRat m D = true ∧ 0 < D ∧ m * (2 * E) = (L + H) * D := by
  have e1 : (n1 * d2).natAbs ≤ 538760697610240000 := by
    rw [Int.natAbs_mul]
    have := Nat.mul_le_mul a1 (show d2.natAbs ≤ 700 by omega)
    omega
  have e2 : (n2 * d1).natAbs ≤ 538760697610240000 := by
    rw [Int.natAbs_mul]
    have := Nat.mul_le_mul a2 (show d1.natAbs ≤ 700 by omega)
    omega
  have e3 : d1 * d2 ≤ 490000 := by
    have := Nat.mul_le_mul (show d1.natAbs ≤ 700 by omega) (show d2.natAbs ≤ 700 by omega)
    rw [← Int.natAbs_mul] at this
    have hp := Int.mul_pos h1 h2
    omega
  have hp := Int.mul_pos h1 h2
  obtain ⟨m, D, e, om, _, mp, _, me⟩ := addPR_good (k := 2) o1 o2 (by omega) (by omega) (by omega) (by omega)
  refine ⟨m, D, e, om, mp, ?_⟩
  refine Int.eq_of_mul_eq_mul_right (a := d1 * d2) (by omega) ?_
  calc m * (2 * E) * (d1 * d2) = m * (d1 * d2 * 2) * E := by simp only [Int.mul_assoc, Int.mul_comm, Int.mul_left_comm]
    _ = (n1 * d2 + n2 * d1) * D * E := by rw [me]
    _ = (n1 * E * d2 + n2 * E * d1) * D := by rw [Int.mul_right_comm, Int.add_mul, Int.mul_right_comm n1, Int.mul_right_comm n2]
    _ = (L * d1 * d2 + H * d2 * d1) * D := by rw [r1, r2]
    _ = (L + H) * D * (d1 * d2) := by rw [Int.mul_assoc L, Int.mul_assoc H, Int.mul_comm d2 d1, ← Int.add_mul, Int.mul_right_comm]
theorem endsL_all {a b : Nat → Int} {T U : Int × Int} (h : ∀ i, i < 8 → (endX a b T U i).2.2 = 0) : ∀ k, k ≤ 8 → (endsL a b T U k).length = k ∧ ∀ i, i < k → nthR (endsL a b T U k) i = ((endX a b T U i).1, (endX a b T U i).2.1)
  | 0, _ => ⟨rfl, fun i hi => by omega⟩
  | k + 1, hk => by
    obtain ⟨h1, h2⟩ := endsL_all h k (by omega)
    have e : endsL a b T U (k + 1) = endsL a b T U k ++ [((endX a b T U k).1, (endX a b T U k).2.1)] := if_pos (h k (by omega))
    rw [e]
    refine ⟨by simp [h1], fun i hi => ?_⟩
    unfold nthR
    by_cases e : i = k
    · subst e
      rw [List.getD_eq_getElem?_getD, List.getElem?_append_right (by omega), h1]; simp
    · have := h2 i (by omega)
      unfold nthR at this
      rw [List.getD_eq_getElem?_getD, List.getElem?_append_left (by omega), ← List.getD_eq_getElem?_getD]; exact this
def loI : Nat → Nat
  | 0 => 1 | 1 => 3 | 2 => 5 | _ => 6
def hiI : Nat → Nat
  | 0 => 0 | 1 => 2 | 2 => 4 | _ => 7
/-- A pair in what is composed has a time between, among the middles of the ends. -/
theorem comp_between {a b : Nat → Int} {T U : Int × Int} (ha : okZ a = true) (hb : okZ b = true) (sa : ∀ i, i < 6 → smallB (a i)) (sb : ∀ i, i < 6 → smallB (b i)) (oT : okRat T.1 T.2 = true) (oU : okRat U.1 U.2 = true) (dT : T.2 ≤ 700) (dU : U.2 ≤ 700)
    (h : CompIn a b (tmE (pt T.1 T.2 U.1 U.2))) : betweenE a b T U (endsL a b T U 8) = true := by
  have pT : 0 < T.2 := by have := (okRat_bd oT).1; omega
  have pU : 0 < U.2 := by have := (okRat_bd oU).1; omega
  have room := room_law pT pU sa sb h
  have hE : 0 < T.2 * U.2 := Int.mul_pos pT pU
  obtain ⟨E, hEE⟩ : ∃ E, E = T.2 * U.2 := ⟨_, rfl⟩
  rw [← hEE] at room hE
  -- the pair is in both zones' spans
  have q4 := h
  obtain ⟨Q, q1, q2, q3, q4⟩ := h
  have A := (ZU_iff (res_closed q1 (a := 0) (b := 1) (c := 2) (by simp) (by simp) (by simp))).1 q2
  have B := (ZU_iff (res_closed q1 (a := 0) (b := 2) (c := 3) (by simp) (by simp) (by simp))).1 q3
  have A10 : ele (tmE (pt T.1 T.2 U.1 U.2) 1 0) (eb (a 0)) := by rw [← q4 1 0 (by omega) (by omega)]; exact A.1
  have A01 : ele (tmE (pt T.1 T.2 U.1 U.2) 0 1) (eb (a 1)) := by rw [← q4 0 1 (by omega) (by omega)]; exact A.2.1
  have B20 : ele (tmE (pt T.1 T.2 U.1 U.2) 2 0) (eb (b 2)) := by rw [← q4 2 0 (by omega) (by omega)]; exact B.2.2.1
  have B02 : ele (tmE (pt T.1 T.2 U.1 U.2) 0 2) (eb (b 3)) := by rw [← q4 0 2 (by omega) (by omega)]; exact B.2.2.2.1
  clear A B q1 q2 q3 q4 Q
  have kT0 : keptB T.1 T.2 0 1 (a 0) = true := (keptB_iff pT (by omega)).2 A10
  have kT1 : keptB 0 1 T.1 T.2 (a 1) = true := (keptB_iff (by omega) pT).2 A01
  have kU0 : keptB U.1 U.2 0 1 (b 2) = true := (keptB_iff pU (by omega)).2 B20
  have kU1 : keptB 0 1 U.1 U.2 (b 3) = true := (keptB_iff (by omega) pU).2 B02
  have big : ∀ {x : Int × Int} {c d : Int}, 0 < x.2 → x.2 ≤ 700 → smallB c → smallB d → keptB x.1 x.2 0 1 c = true → keptB 0 1 x.1 x.2 d = true → x.1.natAbs ≤ 384829069721600 := by
    intro x c d p p7 sc sd k1 k2
    have u1 := (kept_rep (F := x.2) (X := x.1) (Y := 0) p p (by omega) rfl (by simp) sc.1).1 k1
    have u2 := (kept_rep (F := x.2) (X := 0) (Y := x.1) p (by omega) p (by simp) rfl sd.1).1 k2
    have v1 := bnum_small sc
    have v2 := bnum_small sd
    have w1 : bnum c * x.2 ≤ 549755813888 * 700 := by
      have e1 : bnum c * x.2 ≤ 549755813888 * x.2 := Int.mul_le_mul_of_nonneg_right v1.2 (by omega)
      omega
    have w2 : bnum d * x.2 ≤ 549755813888 * 700 := by
      have e1 : bnum d * x.2 ≤ 549755813888 * x.2 := Int.mul_le_mul_of_nonneg_right v2.2 (by omega)
      omega
    omega
  have bT := big pT dT (sa 0 (by omega)) (sa 1 (by omega)) kT0 kT1
  have bU := big pU dU (sb 2 (by omega)) (sb 3 (by omega)) kU0 kU1
  have rep := numP_rep pT pU
  rw [← hEE] at rep
  -- each end may be
  have good : ∀ {k : Nat} {c s : Int}, k < 3 → smallB c → (s = 1 ∨ s = -1) → ∃ n d, endE (ratP T U k) c s = (n, d, 0) ∧ okRat n d = true ∧ 0 < d ∧ d ≤ 700 ∧ n.natAbs ≤ 769658139443200 ∧ n * E = (numP T U k + s * bnum c * E) * d := by
    intro k c s hk sc hs
    obtain ⟨r1, r2⟩ := rep k hk
    have : k = 0 ∨ k = 1 ∨ k = 2 := by omega
    rcases this with rfl | rfl | rfl
    · exact end_good (x := ratP T U 0) (show okRat 0 1 = true by decide) (show (1 : Int) ≤ 700 by omega) (show (0 : Int).natAbs ≤ 384829069721600 by decide) hE r2 sc hs
    · exact end_good (x := ratP T U 1) oT dT bT hE r2 sc hs
    · exact end_good (x := ratP T U 2) oU dU bU hE r2 sc hs
  have lo : ∀ i, i < 4 → ∃ n d, endX a b T U (loI i) = (n, d, 0) ∧ okRat n d = true ∧ 0 < d ∧ d ≤ 700 ∧ n.natAbs ≤ 769658139443200 ∧ n * E = (numP T U (loK i) - bnum (loC a b i) * E) * d := by
    intro i hi
    have e : ∀ c : Int, -1 * c * E = -(c * E) := fun c => by rw [Int.neg_mul, Int.one_mul, Int.neg_mul]
    have : i = 0 ∨ i = 1 ∨ i = 2 ∨ i = 3 := by omega
    rcases this with rfl | rfl | rfl | rfl
    · have := good (k := 0) (c := a 3) (s := -1) (by omega) (sa 3 (by omega)) (.inr rfl); rw [e] at this; exact this
    · have := good (k := 1) (c := a 5) (s := -1) (by omega) (sa 5 (by omega)) (.inr rfl); rw [e] at this; exact this
    · have := good (k := 0) (c := b 1) (s := -1) (by omega) (sb 1 (by omega)) (.inr rfl); rw [e] at this; exact this
    · have := good (k := 2) (c := b 4) (s := -1) (by omega) (sb 4 (by omega)) (.inr rfl); rw [e] at this; exact this
  have hi : ∀ i, i < 4 → ∃ n d, endX a b T U (hiI i) = (n, d, 0) ∧ okRat n d = true ∧ 0 < d ∧ d ≤ 700 ∧ n.natAbs ≤ 769658139443200 ∧ n * E = (numP T U (loK i) + bnum (hiC a b i) * E) * d := by
    intro i hi
    have e : ∀ c : Int, 1 * c * E = c * E := fun c => by rw [Int.one_mul]
    have : i = 0 ∨ i = 1 ∨ i = 2 ∨ i = 3 := by omega
    rcases this with rfl | rfl | rfl | rfl
    · have := good (k := 0) (c := a 2) (s := 1) (by omega) (sa 2 (by omega)) (.inl rfl); rw [e] at this; exact this
    · have := good (k := 1) (c := a 4) (s := 1) (by omega) (sa 4 (by omega)) (.inl rfl); rw [e] at this; exact this
    · have := good (k := 0) (c := b 0) (s := 1) (by omega) (sb 0 (by omega)) (.inl rfl); rw [e] at this; exact this
    · have := good (k := 2) (c := b 5) (s := 1) (by omega) (sb 5 (by omega)) (.inl rfl); rw [e] at this; exact this
  have all : ∀ i, i < 8 → (endX a b T U i).2.2 = 0 := by
    intro i hi8
    have z : ∀ {x : Int × Int × Int}, (∃ n d, x = (n, d, 0) ∧ okRat n d = true ∧ 0 < d ∧ d ≤ 700 ∧ n.natAbs ≤ 769658139443200 ∧ ∃ y : Int, n * E = y * d) → x.2.2 = 0 := by
      rintro x ⟨n, d, rfl, _⟩; rfl
    have zl : ∀ j, j < 4 → (endX a b T U (loI j)).2.2 = 0 := fun j hj => by obtain ⟨n, d, e, _⟩ := lo j hj; rw [e]
    have zh : ∀ j, j < 4 → (endX a b T U (hiI j)).2.2 = 0 := fun j hj => by obtain ⟨n, d, e, _⟩ := hi j hj; rw [e]
    have : i = 0 ∨ i = 1 ∨ i = 2 ∨ i = 3 ∨ i = 4 ∨ i = 5 ∨ i = 6 ∨ i = 7 := by omega
    rcases this with rfl | rfl | rfl | rfl | rfl | rfl | rfl | rfl
    · exact zh 0 (by omega)
    · exact zl 0 (by omega)
    · exact zh 1 (by omega)
    · exact zl 1 (by omega)
    · exact zh 2 (by omega)
    · exact zl 2 (by omega)
    · exact zl 3 (by omega)
    · exact zh 3 (by omega)
  obtain ⟨len, nth⟩ := endsL_all all 8 (by omega)
  -- the greatest end from below, the least one from above
  obtain ⟨p, hp, hpm⟩ := great 4 (fun i => numP T U (loK i) - bnum (loC a b i) * E) (by omega)
  obtain ⟨r, hr, hrm⟩ := great 4 (fun i => -(numP T U (loK i) + bnum (hiC a b i) * E)) (by omega)
  obtain ⟨n1, d1, e1, o1, p1, g1, b1, r1⟩ := lo p hp
  obtain ⟨n2, d2, e2, o2, p2, g2, b2, r2⟩ := hi r hr
  obtain ⟨m, D, em, om, mp, mr⟩ := mid_good o1 o2 p1 p2 g1 g2 b1 b2 r1 r2
  have h2E : 0 < 2 * E := by omega
  have rep2 : ∀ k, k < 3 → 0 < (ratP T U k).2 ∧ (ratP T U k).1 * (2 * E) = (2 * numP T U k) * (ratP T U k).2 := fun k hk => by
    obtain ⟨x1, x2⟩ := rep k hk
    refine ⟨x1, ?_⟩
    rw [Int.mul_left_comm, x2, Int.mul_assoc]
  have kl : ∀ i, i < 4 → smallB (loC a b i) → keptB (ratP T U (loK i)).1 (ratP T U (loK i)).2 m D (loC a b i) = true := by
    intro i hi sc
    obtain ⟨x1, x2⟩ := rep2 _ (loK_lt i)
    rw [kept_rep h2E x1 mp x2 mr sc.1, Int.mul_left_comm]
    have m1 := hpm i hi
    have m2 := room i r hi hr
    have m3 := room p r hp hr
    generalize bnum (loC a b i) * E = c1 at *
    generalize bnum (loC a b p) * E = c2 at *
    generalize bnum (hiC a b r) * E = c3 at *
    omega
  have kh : ∀ i, i < 4 → smallB (hiC a b i) → keptB m D (ratP T U (loK i)).1 (ratP T U (loK i)).2 (hiC a b i) = true := by
    intro i hi sc
    obtain ⟨x1, x2⟩ := rep2 _ (loK_lt i)
    rw [kept_rep h2E mp x1 mr x2 sc.1, Int.mul_left_comm]
    have m1 := hrm i hi
    have m2 := room p i hp hi
    have m3 := room p r hp hr
    generalize bnum (hiC a b i) * E = c1 at *
    generalize bnum (loC a b p) * E = c2 at *
    generalize bnum (hiC a b r) * E = c3 at *
    omega
  have hit : hitE a b T U (n1, d1) (n2, d2) = true := by
    unfold hitE
    rw [em, Bool.and_eq_true]
    refine ⟨by simp, fitsE_iff.2 ⟨ha, hb, oT, om, oU, ?_, ?_⟩⟩
    · have pos : ∀ i, i < 3 → 0 < (tm (pt T.1 T.2 m D) i).2 := fun i hi => by
        have : i = 0 ∨ i = 1 ∨ i = 2 := by omega
        rcases this with rfl | rfl | rfl
        · show (0 : Int) < 1; omega
        · exact pT
        · exact mp
      rw [kept_under pos]
      refine (ZU_iff (tmE_closed pos)).2 ⟨A10, A01, ?_, ?_, ?_, ?_⟩
      · exact (keptB_iff mp (show (0 : Int) < 1 by omega)).1 (kh 0 (by omega) (sa 2 (by omega)))
      · exact (keptB_iff (show (0 : Int) < 1 by omega) mp).1 (kl 0 (by omega) (sa 3 (by omega)))
      · exact (keptB_iff mp pT).1 (kh 1 (by omega) (sa 4 (by omega)))
      · exact (keptB_iff pT mp).1 (kl 1 (by omega) (sa 5 (by omega)))
    · have pos : ∀ i, i < 3 → 0 < (tm (pt m D U.1 U.2) i).2 := fun i hi => by
        have : i = 0 ∨ i = 1 ∨ i = 2 := by omega
        rcases this with rfl | rfl | rfl
        · show (0 : Int) < 1; omega
        · exact mp
        · exact pU
      rw [kept_under pos]
      refine (ZU_iff (tmE_closed pos)).2 ⟨?_, ?_, B20, B02, ?_, ?_⟩
      · exact (keptB_iff mp (show (0 : Int) < 1 by omega)).1 (kh 2 (by omega) (sb 0 (by omega)))
      · exact (keptB_iff (show (0 : Int) < 1 by omega) mp).1 (kl 2 (by omega) (sb 1 (by omega)))
      · exact (keptB_iff pU mp).1 (kl 3 (by omega) (sb 4 (by omega)))
      · exact (keptB_iff mp pU).1 (kh 3 (by omega) (sb 5 (by omega)))
  have l8 : loI p < 8 := by
    have : p = 0 ∨ p = 1 ∨ p = 2 ∨ p = 3 := by omega
    rcases this with rfl | rfl | rfl | rfl <;> decide
  have h8 : hiI r < 8 := by
    have : r = 0 ∨ r = 1 ∨ r = 2 ∨ r = 3 := by omega
    rcases this with rfl | rfl | rfl | rfl <;> decide
  have nl : nthR (endsL a b T U 8) (loI p) = (n1, d1) := by rw [nth _ l8, e1]
  have nh : nthR (endsL a b T U 8) (hiI r) = (n2, d2) := by rw [nth _ h8, e2]
  rw [between_iff]
  by_cases hc : hiI r ≤ loI p
  · exact ⟨loI p, hiI r, by rw [len]; exact l8, hc, by rw [nl, nh]; exact hit⟩
  · exact ⟨hiI r, loI p, by rw [len]; exact h8, by omega, by rw [nl, nh, hit_comm]; exact hit⟩
/-- CompPoints. -/
theorem cpoints_law {a b : Nat → Int} {T U : Int × Int} (ha : okZ a = true) (hb : okZ b = true) (sa : ∀ i, i < 6 → smallB (a i)) (sb : ∀ i, i < 6 → smallB (b i)) (dT : T.2 ≤ 700) (dU : U.2 ≤ 700) :
    ((compZ a b).2 = 6 ∧ betweenE a b T U (endsL a b T U 8) = false) ∨ ((compZ a b).2 = 0 ∧ ((hasZ (compZ a b).1 (pt T.1 T.2 U.1 U.2)).2 = 0 → (hasZ (compZ a b).1 (pt T.1 T.2 U.1 U.2)).1 = betweenE a b T U (endsL a b T U 8))) := by
  rcases comp_max ha hb with ⟨h1, _, hno⟩ | ⟨c, hc, K, h1, hm⟩
  · left
    rw [h1]
    refine ⟨rfl, ?_⟩
    rw [← Bool.not_eq_true]
    exact fun h => hno _ (between_comp h).1
  · right
    -- numbers of a closed one of small ones are small
    have hok : okD (3 : Nat) (3 * 3) (dropF c) = true := by
      obtain ⟨e, he, hce⟩ := K.ex
      have hb4 : ∀ i j, i < 4 → j < 4 → ebd 549755813888 (mE 4 (jF a b) i j) := by
        intro i j hi hj
        have sm : ∀ {x : Int}, smallB x → bd 549755813888 x := fun h => .inr (bnum_small h)
        have mn : ∀ {x y : Int}, smallB x → smallB y → smallB (min x y) := fun {x y} hx hy => by
          rcases Int.le_total x y with h | h
          · rw [Int.min_eq_left h]; exact hx
          · rw [Int.min_eq_right h]; exact hy
        refine bd_iff.1 (?_ : bd 549755813888 (jF a b (i * 4 + j)))
        have hi : i = 0 ∨ i = 1 ∨ i = 2 ∨ i = 3 := by omega
        have hj : j = 0 ∨ j = 1 ∨ j = 2 ∨ j = 3 := by omega
        have one : bd 549755813888 1 := .inr (by decide)
        rcases hi with rfl | rfl | rfl | rfl <;> rcases hj with rfl | rfl | rfl | rfl
        · exact one
        · exact sm (sa 1 (by omega))
        · exact sm (mn (sa 3 (by omega)) (sb 1 (by omega)))
        · exact sm (sb 3 (by omega))
        · exact sm (sa 0 (by omega))
        · exact one
        · exact sm (sa 5 (by omega))
        · exact .inl rfl
        · exact sm (mn (sa 2 (by omega)) (sb 0 (by omega)))
        · exact sm (sa 4 (by omega))
        · exact one
        · exact sm (sb 5 (by omega))
        · exact sm (sb 2 (by omega))
        · exact .inl rfl
        · exact sm (sb 4 (by omega))
        · exact one
      have he2 := he
      unfold closeE at he2
      split at he2
      · have hbd := rounds_bd3 (C := 549755813888) (by omega) (by omega) (fun i _ => diag1_diag (mE 4 (jF a b)) i) (fun i j hi hj => by
          unfold diag1
          by_cases e : i = j
          · rw [if_pos e]; simp [ebd]
          · rw [if_neg e]; exact hb4 i j hi hj) he2
        refine okD_of (f := topF 3) (by decide) fun x hx => ?_
        obtain ⟨i, j, hi, hj, rfl⟩ := at_place (n := 3) hx
        have lt4 : ∀ i, sel 0 1 3 i < 4 := fun i => by
          match i with
          | 0 => decide
          | 1 => decide
          | n + 2 => exact (by decide : 3 < 4)
        have k := hbd (sel 0 1 3 i) (sel 0 1 3 j) (lt4 i) (lt4 j)
        rw [← hce _ _ (lt4 i) (lt4 j)] at k
        have e2 : eb (dropF c (i * 3 + j)) = eb (c (sel 0 1 3 i * 4 + sel 0 1 3 j)) := drop_res c i j hi hj
        rw [← e2] at k
        exact bd_mayB (bd_mono (bd_iff.2 k) (by omega))
      · cases he2
    have h2 := h1.trans (toldZ_ok hok)
    obtain ⟨_, _, kr, ur⟩ := comp_ok h2
    rw [h2]
    refine ⟨rfl, fun h0 => ?_⟩
    obtain ⟨_, hr, hk⟩ := hasZ_ok (b := (hasZ (shortZ (dropF c)) (pt T.1 T.2 U.1 U.2)).1) (Prod.ext rfl h0)
    have hr2 := hr
    rw [rat2, Bool.and_eq_true] at hr2
    have pos : ∀ i, i < 3 → 0 < (tm (pt T.1 T.2 U.1 U.2) i).2 := fun i hi => tm_pos hr i (by omega)
    show (hasZ (shortZ (dropF c)) (pt T.1 T.2 U.1 U.2)).1 = _
    rw [hk, Bool.eq_iff_iff, kept_under pos]
    constructor
    · intro hu
      exact comp_between ha hb sa sb hr2.1 hr2.2 dT dU ((ur _ (tmE_closed pos)).1 hu)
    · intro hbt
      exact (ur _ (tmE_closed pos)).2 (between_comp hbt).1
end Go.Proofs.Ytbgbhfcnadjhdaa
