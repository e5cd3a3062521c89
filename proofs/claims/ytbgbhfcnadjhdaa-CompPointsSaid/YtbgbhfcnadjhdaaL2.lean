/- Plain laws of law09: composed zones, and the other way round. No condition. -/
import Derived.Test.YtbgbhfcnadjhdaaL1
namespace Go.Proofs.Ytbgbhfcnadjhdaa
set_option linter.unusedSimpArgs false
set_option linter.unusedVariables false
open Go Go.RowKit

/-- The matrix of 0, t, s, u that two zones make. -/
def jF (a b : Nat → Int) : Nat → Int
  | 0 => 1 | 1 => a 1 | 2 => min (a 3) (b 1) | 3 => b 3
  | 4 => a 0 | 5 => 1 | 6 => a 5 | 7 => noneB
  | 8 => min (a 2) (b 0) | 9 => a 4 | 10 => 1 | 11 => b 5
  | 12 => b 2 | 13 => noneB | 14 => b 4 | _ => 1
/-- A matrix without its third clock. -/
def dropF (c : Nat → Int) : Nat → Int := fun x => c (sel 0 1 3 (x / 3) * 4 + sel 0 1 3 (x % 3))
def compZ (a b : Nat → Int) : (Nat → Int) × Int :=
  if okZ a && okZ b then (if (closeM 4 16 (jF a b)).e = 0 then ofZ 3 9 (dropF (closeM 4 16 (jF a b)).f) else (fun _ => 0, 6)) else (fun _ => 0, 8)
theorem sixteen {x : Nat} (h : x < 16) : x = 0 ∨ x = 1 ∨ x = 2 ∨ x = 3 ∨ x = 4 ∨ x = 5 ∨ x = 6 ∨ x = 7 ∨ x = 8 ∨ x = 9 ∨ x = 10 ∨ x = 11 ∨ x = 12 ∨ x = 13 ∨ x = 14 ∨ x = 15 := by omega
theorem jF_ok {a b : Nat → Int} (ha : okZ a = true) (hb : okZ b = true) : okD (4 : Nat) (4 * 4) (jF a b) = true := by
  refine okD_of (f := topF 4) (by decide) fun x hx => ?_
  have ma := fun i (hi : i < 6) => okZ_may ha hi
  have mb := fun i (hi : i < 6) => okZ_may hb hi
  rcases sixteen hx with rfl | rfl | rfl | rfl | rfl | rfl | rfl | rfl | rfl | rfl | rfl | rfl | rfl | rfl | rfl | rfl
  · rfl
  · exact ma 1 (by omega)
  · exact mayB_min (ma 3 (by omega)) (mb 1 (by omega))
  · exact mb 3 (by omega)
  · exact ma 0 (by omega)
  · rfl
  · exact ma 5 (by omega)
  · rfl
  · exact mayB_min (ma 2 (by omega)) (mb 0 (by omega))
  · exact ma 4 (by omega)
  · rfl
  · exact mb 5 (by omega)
  · exact mb 2 (by omega)
  · rfl
  · exact mb 4 (by omega)
  · rfl
theorem closed4 {Q : Nat → Nat → EB} : Closed 4 Q ↔ ClosedL [0, 1, 2, 3] Q := by
  have m : ∀ i, i ∈ [0, 1, 2, 3] ↔ i < 4 := by
    intro i
    simp only [List.mem_cons, List.not_mem_nil, or_false]
    omega
  constructor
  · exact fun h => ⟨fun i hi => h.1 i ((m i).1 hi), fun i j k hi hj hk => h.2 i j k ((m i).1 hi) ((m j).1 hj) ((m k).1 hk)⟩
  · exact fun h => ⟨fun i hi => h.1 i ((m i).2 hi), fun i j k hi hj hk => h.2 i j k ((m i).2 hi) ((m j).2 hj) ((m k).2 hk)⟩
/-- A zone's bounds, place by place. -/
theorem ZU_iff {z : Nat → Int} {q : Nat → Nat → EB} (hq : Closed 3 q) : ZU z q ↔ ele (q 1 0) (eb (z 0)) ∧ ele (q 0 1) (eb (z 1)) ∧ ele (q 2 0) (eb (z 2)) ∧ ele (q 0 2) (eb (z 3)) ∧ ele (q 2 1) (eb (z 4)) ∧ ele (q 1 2) (eb (z 5)) := by
  rw [← satQ_zone hq]
  simp only [satQ, and_true]
  exact Iff.rfl
theorem under_j {a b : Nat → Int} (ha : okZ a = true) (hb : okZ b = true) {Q : Nat → Nat → EB} (hQ : Closed 4 Q) : Under 4 Q (mE 4 (jF a b)) ↔ ZU a (res Q 0 1 2) ∧ ZU b (res Q 0 2 3) := by
  have hL := closed4.1 hQ
  rw [ZU_iff (res_closed hL (by simp) (by simp) (by simp)), ZU_iff (res_closed hL (by simp) (by simp) (by simp))]
  have ma := fun i (hi : i < 6) => mayB_le (okZ_may ha hi)
  have mb := fun i (hi : i < 6) => mayB_le (okZ_may hb hi)
  show _ ↔ (ele (Q 1 0) (eb (a 0)) ∧ ele (Q 0 1) (eb (a 1)) ∧ ele (Q 2 0) (eb (a 2)) ∧ ele (Q 0 2) (eb (a 3)) ∧ ele (Q 2 1) (eb (a 4)) ∧ ele (Q 1 2) (eb (a 5))) ∧ (ele (Q 2 0) (eb (b 0)) ∧ ele (Q 0 2) (eb (b 1)) ∧ ele (Q 3 0) (eb (b 2)) ∧ ele (Q 0 3) (eb (b 3)) ∧ ele (Q 3 2) (eb (b 4)) ∧ ele (Q 2 3) (eb (b 5)))
  constructor
  · intro h
    have k := fun i j hi hj => show ele (Q i j) (eb (jF a b (i * 4 + j))) from h i j hi hj
    have k02 := (ele_min (ma 3 (by omega)) (mb 1 (by omega))).1 (k 0 2 (by omega) (by omega))
    have k20 := (ele_min (ma 2 (by omega)) (mb 0 (by omega))).1 (k 2 0 (by omega) (by omega))
    exact ⟨⟨k 1 0 (by omega) (by omega), k 0 1 (by omega) (by omega), k20.1, k02.1, k 2 1 (by omega) (by omega), k 1 2 (by omega) (by omega)⟩, k20.2, k02.2, k 3 0 (by omega) (by omega), k 0 3 (by omega) (by omega), k 3 2 (by omega) (by omega), k 2 3 (by omega) (by omega)⟩
  · rintro ⟨⟨a0, a1, a2, a3, a4, a5⟩, b0, b1, b2, b3, b4, b5⟩ i j hi hj
    have hi : i = 0 ∨ i = 1 ∨ i = 2 ∨ i = 3 := by omega
    have hj : j = 0 ∨ j = 1 ∨ j = 2 ∨ j = 3 := by omega
    show ele (Q i j) (eb (jF a b (i * 4 + j)))
    have one : ∀ i, i < 4 → ele (Q i i) (eb 1) := fun i hi => by rw [hQ.1 i hi, eb_one]; exact ele_refl _
    have non : ∀ x : EB, ele x (eb noneB) := fun x => by rw [eb_none]; exact ele_none _
    rcases hi with rfl | rfl | rfl | rfl <;> rcases hj with rfl | rfl | rfl | rfl
    · exact one 0 (by omega)
    · exact a1
    · exact (ele_min (ma 3 (by omega)) (mb 1 (by omega))).2 ⟨a3, b1⟩
    · exact b3
    · exact a0
    · exact one 1 (by omega)
    · exact a5
    · exact non _
    · exact (ele_min (ma 2 (by omega)) (mb 0 (by omega))).2 ⟨a2, b0⟩
    · exact a4
    · exact one 2 (by omega)
    · exact b5
    · exact b2
    · exact non _
    · exact b4
    · exact one 3 (by omega)
theorem drop_res (c : Nat → Int) : ∀ i j, i < 3 → j < 3 → mE 3 (dropF c) i j = res (mE 4 c) 0 1 3 i j := by
  intro i j hi hj
  have hi : i = 0 ∨ i = 1 ∨ i = 2 := by omega
  have hj : j = 0 ∨ j = 1 ∨ j = 2 := by omega
  rcases hi with rfl | rfl | rfl <;> rcases hj with rfl | rfl | rfl <;> rfl
def inv3 : Nat → Nat
  | 3 => 2 | i => i
/-- The greatest closed one of some. -/
structure IsMax (P : (Nat → Nat → EB) → Prop) (c : Nat → Int) : Prop where
  cl : Closed 3 (mE 3 c)
  iff : ∀ q, Closed 3 q → (P q ↔ Under 3 q (mE 3 c))
theorem closed3_congr {q r : Nat → Nat → EB} (h : ∀ i j, i < 3 → j < 3 → q i j = r i j) (hq : Closed 3 q) : Closed 3 r :=
  ⟨fun i hi => by rw [← h i i hi hi]; exact hq.1 i hi, fun i j k hi hj hk => by rw [← h i j hi hj, ← h i k hi hk, ← h k j hk hj]; exact hq.2 i j k hi hj hk⟩
theorem IsMax.same {P R : (Nat → Nat → EB) → Prop} {c d : Nat → Int} (h : IsMax P c) (g : IsMax R d) (hp : ∀ q, Closed 3 q → (P q ↔ R q)) : ∀ x, x < 9 → c x = d x := fun x hx => by
  obtain ⟨i, j, hi, hj, rfl⟩ := at_place (n := 3) hx
  have h1 := (h.iff _ h.cl).2 (under_refl 3 _)
  have g1 := (g.iff _ g.cl).2 (under_refl 3 _)
  exact eb_inj (ele_antisymm ((g.iff _ h.cl).1 ((hp _ h.cl).1 h1) i j hi hj) ((h.iff _ g.cl).1 ((hp _ g.cl).2 g1) i j hi hj))
theorem okD_same {c d : Nat → Int} (h : ∀ x, x < 9 → c x = d x) : okD (3 : Nat) (3 * 3) c = okD (3 : Nat) (3 * 3) d := by
  rw [Bool.eq_iff_iff]
  exact ⟨fun k => okD_of k fun x hx => by rw [← h x hx]; exact okD_may k x hx, fun k => okD_of k fun x hx => by rw [h x hx]; exact okD_may k x hx⟩
theorem told_same {c d : Nat → Int} (h : ∀ x, x < 9 → c x = d x) : toldZ c = toldZ d := by
  have es : shortZ c = shortZ d := funext fun i => h _ (placeZ_lt9 i)
  have eo := okD_same h
  cases hk : okD (3 : Nat) (3 * 3) c
  · rw [toldZ_bad hk, toldZ_bad (eo ▸ hk)]
  · rw [toldZ_ok hk, toldZ_ok (eo ▸ hk), es]
/-- The zone of a matrix that is closed. -/
theorem ofZ_closed {f : Nat → Int} (h : Closed 3 (mE 3 f)) : ofZ 3 9 f = toldZ f := by
  cases ok : okD (3 : Nat) (3 * 3) f
  · rw [toldZ_bad ok]
    unfold ofZ
    rw [if_neg (by rw [show okD 3 9 f = false from ok]; simp)]
  · unfold ofZ
    rw [if_pos (show okD 3 9 f = true from ok), if_pos rfl]
    rcases closeM_cases ok with ⟨c, hc, K⟩ | ⟨hc, hno⟩
    · rw [show closeM 3 9 f = ⟨3, 9, c, 0⟩ from hc, if_pos rfl]
      refine told_same fun x hx => ?_
      obtain ⟨i, j, hi, hj, rfl⟩ := at_place (n := 3) hx
      exact eb_inj (ele_antisymm (K.closed.2 i j hi hj) ((K.iff h).1 (under_refl 3 _) i j hi hj))
    · exact absurd (under_refl 3 _) (none_no hno h)
/-- What two zones hold, one behind the other, has a greatest closed one, or is nothing. -/
theorem comp_max {a b : Nat → Int} (ha : okZ a = true) (hb : okZ b = true) :
    (compZ a b = (fun _ => 0, 6) ∧ (closeM 4 16 (jF a b)).e = 6 ∧ ∀ q, ¬ CompIn a b q) ∨ ∃ c, closeM 4 16 (jF a b) = ⟨4, 16, c, 0⟩ ∧ ClosedI 4 (jF a b) c ∧ compZ a b = toldZ (dropF c) ∧ IsMax (CompIn a b) (dropF c) := by
  have ok := jF_ok ha hb
  unfold compZ
  rw [ha, hb, Bool.and_self, if_pos rfl]
  rcases closeM_cases ok with ⟨c, hc, K⟩ | ⟨hc, hno⟩
  · right
    have hc' : closeM 4 16 (jF a b) = ⟨4, 16, c, 0⟩ := hc
    have cl3 : Closed 3 (mE 3 (dropF c)) := closed3_congr (fun i j hi hj => (drop_res c i j hi hj).symm) (res_closed (closed4.1 K.closed.1) (by simp) (by simp) (by simp))
    refine ⟨c, hc', K, ?_, cl3, fun q hq => ?_⟩
    · rw [hc', if_pos rfl]
      exact ofZ_closed cl3
    · constructor
      · rintro ⟨Q, h1, h2, h3, h4⟩ i j hi hj
        have hu := (K.iff (closed4.2 h1)).1 ((under_j ha hb (closed4.2 h1)).2 ⟨h2, h3⟩)
        rw [← h4 i j hi hj, drop_res c i j hi hj]
        have lt4 : ∀ i, sel 0 1 3 i < 4 := fun i => by
          match i with
          | 0 => decide
          | 1 => decide
          | n + 2 => exact (by decide : 3 < 4)
        exact hu _ _ (lt4 i) (lt4 j)
      · intro hu
        obtain ⟨Q, hQ⟩ : ∃ Q : Nat → Nat → EB, Q = fun i j => q (inv3 i) (inv3 j) := ⟨_, rfl⟩
        have hinv : ∀ i, i ∈ [0, 1, 3] → inv3 i < 3 := by decide
        have hQc : ClosedL [0, 1, 3] Q := by
          rw [hQ]
          exact ⟨fun i hi => hq.1 _ (hinv i hi), fun i j k hi hj hk => hq.2 _ _ _ (hinv i hi) (hinv j hj) (hinv k hk)⟩
        have hc4 : ClosedL [2, 0, 1, 3] (mE 4 c) := (closed4.1 K.closed.1).sub (by decide)
        have hle : ∀ i j, i ∈ [0, 1, 3] → j ∈ [0, 1, 3] → ele (Q i j) (mE 4 c i j) := by
          intro i j hi hj
          have hi : i = 0 ∨ i = 1 ∨ i = 3 := by simpa using hi
          have hj : j = 0 ∨ j = 1 ∨ j = 3 := by simpa using hj
          have k := fun i j hi hj => show ele (q i j) (res (mE 4 c) 0 1 3 i j) from by rw [← drop_res c i j hi hj]; exact hu i j hi hj
          rw [hQ]
          rcases hi with rfl | rfl | rfl <;> rcases hj with rfl | rfl | rfl
          · exact k 0 0 (by omega) (by omega)
          · exact k 0 1 (by omega) (by omega)
          · exact k 0 2 (by omega) (by omega)
          · exact k 1 0 (by omega) (by omega)
          · exact k 1 1 (by omega) (by omega)
          · exact k 1 2 (by omega) (by omega)
          · exact k 2 0 (by omega) (by omega)
          · exact k 2 1 (by omega) (by omega)
          · exact k 2 2 (by omega) (by omega)
        have R1 := joinQ_closed hQc hc4 (fun i hi => hi) (by decide) hle
        have R2 := joinQ_le hQc hc4 (fun i hi => hi) (by decide) hle
        have R3 : ClosedL [0, 1, 2, 3] (joinQ [0, 1, 3] 2 Q (mE 4 c)) := R1.sub (by decide)
        have hm : ∀ i, i < 4 → i ∈ [2, 0, 1, 3] := by decide
        have hU : Under 4 (joinQ [0, 1, 3] 2 Q (mE 4 c)) (mE 4 (jF a b)) := fun i j hi hj => ele_trans (R2 i j (hm i hi) (hm j hj)) (K.closed.2 i j hi hj)
        obtain ⟨u1, u2⟩ := (under_j ha hb (closed4.2 R3)).1 hU
        refine ⟨_, R3, u1, u2, fun i j hi hj => ?_⟩
        have hi : i = 0 ∨ i = 1 ∨ i = 2 := by omega
        have hj : j = 0 ∨ j = 1 ∨ j = 2 := by omega
        unfold res
        rcases hi with rfl | rfl | rfl <;> rcases hj with rfl | rfl | rfl <;> (rw [joinQ_old (by decide) (by decide), hQ]; rfl)
  · left
    have hc' : closeM 4 16 (jF a b) = errM 6 := hc
    rw [hc']
    refine ⟨rfl, rfl, ?_⟩
    rintro q ⟨Q, h1, h2, h3, _⟩
    exact none_no hno (closed4.2 h1) ((under_j ha hb (closed4.2 h1)).2 ⟨h2, h3⟩)
theorem comp_bad {a b : Nat → Int} (h : (okZ a && okZ b) = false) : compZ a b = (fun _ => 0, 8) := by unfold compZ; rw [h]; rfl
theorem okZ_told {c r : Nat → Int} (hc : Closed 3 (mE 3 c)) (h : toldZ c = (r, 0)) : okZ r = true ∧ ∀ x, x < 9 → zF r x = c x := by
  cases ok : okD (3 : Nat) (3 * 3) c
  · rw [toldZ_bad ok] at h; simp at h
  · rcases closeM_cases ok with ⟨d, hd, K⟩ | ⟨hd, hno⟩
    · have e : ∀ x, x < 9 → d x = c x := fun x hx => by
        obtain ⟨i, j, hi, hj, rfl⟩ := at_place (n := 3) hx
        exact eb_inj (ele_antisymm (K.closed.2 i j hi hj) ((K.iff hc).1 (under_refl 3 _) i j hi hj))
      have okd : okD (3 : Nat) (3 * 3) d = true := by rw [okD_same e]; exact ok
      rw [← told_same e, toldZ_ok okd] at h
      simp only [Prod.mk.injEq, and_true] at h
      subst h
      exact ⟨okZ_of K okd, fun x hx => (zF_short K x hx).trans (e x hx)⟩
    · exact absurd (under_refl 3 _) (none_no hno hc)
/-- What is composed, if it may be. -/
theorem comp_ok {a b r : Nat → Int} (h : compZ a b = (r, 0)) : okZ a = true ∧ okZ b = true ∧ okZ r = true ∧ ∀ q, Closed 3 q → (ZU r q ↔ CompIn a b q) := by
  cases hab : (okZ a && okZ b)
  · rw [comp_bad hab] at h; simp at h
  simp only [Bool.and_eq_true] at hab
  obtain ⟨ha, hb⟩ := hab
  rcases comp_max ha hb with ⟨h1, _⟩ | ⟨c, _, _, h1, h2⟩
  · rw [h] at h1; simp at h1
  · rw [h] at h1
    obtain ⟨k1, k2⟩ := okZ_told h2.cl h1.symm
    refine ⟨ha, hb, k1, fun q hq => ?_⟩
    rw [h2.iff q hq]
    exact ⟨under3_congr k2, under3_congr fun x hx => (k2 x hx).symm⟩
theorem comp_e (a b : Nat → Int) : (compZ a b).2 = 0 ∨ (compZ a b).2 = 6 ∨ (compZ a b).2 = 8 := by
  cases hab : (okZ a && okZ b)
  · rw [comp_bad hab]; exact .inr (.inr rfl)
  simp only [Bool.and_eq_true] at hab
  rcases comp_max hab.1 hab.2 with ⟨h1, _⟩ | ⟨c, _, _, h1, _⟩
  · rw [h1]; exact .inr (.inl rfl)
  · rw [h1]
    cases ok : okD (3 : Nat) (3 * 3) (dropF c)
    · rw [toldZ_bad ok]; exact .inr (.inr rfl)
    · rw [toldZ_ok ok]; exact .inl rfl
theorem compIn_cl {a b : Nat → Int} {q : Nat → Nat → EB} (h : CompIn a b q) : Closed 3 q := by
  obtain ⟨Q, h1, _, _, h4⟩ := h
  exact closed3_congr h4 (res_closed h1 (by simp) (by simp) (by simp))
/-- Zones that compose to the same have the same answer. -/
theorem comp_eq {a b c d : Nat → Int} (ha : okZ a = true) (hb : okZ b = true) (hc : okZ c = true) (hd : okZ d = true) (h : ∀ q, CompIn a b q ↔ CompIn c d q) : compZ a b = compZ c d := by
  rcases comp_max ha hb with ⟨h1, _, h2⟩ | ⟨f, _, _, h1, h2⟩
  · rcases comp_max hc hd with ⟨g1, _⟩ | ⟨g, _, _, g1, g2⟩
    · rw [h1, g1]
    · exact absurd ((h _).2 ((g2.iff _ g2.cl).2 (under_refl 3 _))) (h2 _)
  · rcases comp_max hc hd with ⟨g1, _, g2⟩ | ⟨g, _, _, g1, g2⟩
    · exact absurd ((h _).1 ((h2.iff _ h2.cl).2 (under_refl 3 _))) (g2 _)
    · rw [h1, g1]
      exact told_same (h2.same g2 fun q _ => h q)
/-- CompOrder: which two of three come first. -/
theorem corder_law {a b c x y : Nat → Int} (h1 : compZ a b = (x, 0)) (h2 : compZ b c = (y, 0)) : compZ x c = compZ a y := by
  obtain ⟨ha, hb, hx, ux⟩ := comp_ok h1
  obtain ⟨_, hc, hy, uy⟩ := comp_ok h2
  exact comp_eq hx hc ha hy fun q => ⟨comp_assoc1 (fun q hq => (ux q hq).1) fun q hq => (uy q hq).2, comp_assoc2 (fun q hq => (uy q hq).1) fun q hq => (ux q hq).2⟩
/-- A zone the other way round. -/
def backZ (z : Nat → Int) : Nat → Int
  | 0 => z 2 | 1 => z 3 | 2 => z 0 | 3 => z 1 | 4 => z 5 | _ => z 4
def sw : Nat → Nat
  | 1 => 2 | 2 => 1 | i => i
def swap (q : Nat → Nat → EB) : Nat → Nat → EB := fun i j => q (sw i) (sw j)
theorem sw_lt {i : Nat} (h : i < 3) : sw i < 3 ∧ sw (sw i) = i := by
  have : i = 0 ∨ i = 1 ∨ i = 2 := by omega
  rcases this with rfl | rfl | rfl <;> decide
theorem swap_closed {q : Nat → Nat → EB} (h : Closed 3 q) : Closed 3 (swap q) :=
  ⟨fun i hi => h.1 _ (sw_lt hi).1, fun i j k hi hj hk => h.2 _ _ _ (sw_lt hi).1 (sw_lt hj).1 (sw_lt hk).1⟩
theorem back_swap {z : Nat → Int} {q : Nat → Nat → EB} (hq : Closed 3 q) : ZU (backZ z) q ↔ ZU z (swap q) := by
  rw [ZU_iff hq, ZU_iff (swap_closed hq)]
  show (ele (q 1 0) (eb (z 2)) ∧ ele (q 0 1) (eb (z 3)) ∧ ele (q 2 0) (eb (z 0)) ∧ ele (q 0 2) (eb (z 1)) ∧ ele (q 2 1) (eb (z 5)) ∧ ele (q 1 2) (eb (z 4))) ↔ (ele (q 2 0) (eb (z 0)) ∧ ele (q 0 2) (eb (z 1)) ∧ ele (q 1 0) (eb (z 2)) ∧ ele (q 0 1) (eb (z 3)) ∧ ele (q 1 2) (eb (z 4)) ∧ ele (q 2 1) (eb (z 5)))
  exact ⟨fun ⟨x1, x2, x3, x4, x5, x6⟩ => ⟨x3, x4, x1, x2, x6, x5⟩, fun ⟨x3, x4, x1, x2, x6, x5⟩ => ⟨x1, x2, x3, x4, x5, x6⟩⟩
theorem swap_swap {q : Nat → Nat → EB} : ∀ i j, i < 3 → j < 3 → swap (swap q) i j = q i j := fun i j hi hj => by
  unfold swap
  rw [(sw_lt hi).2, (sw_lt hj).2]
/-- May a zone be: just if it is closed, and has numbers that may be. -/
theorem okZ_iff {z : Nat → Int} : okZ z = true ↔ okD (3 : Nat) (3 * 3) (zF z) = true ∧ Closed 3 (mE 3 (zF z)) := by
  constructor
  · intro h
    obtain ⟨h1, c, _, K, e⟩ := okZ_facts h
    exact ⟨h1, closed3_congr (mE3_congr e) K.closed.1⟩
  · rintro ⟨h1, h2⟩
    have h3 := toldZ_ok h1
    obtain ⟨k1, k2⟩ := okZ_told h2 h3
    have e : ∀ i, i < 6 → shortZ (zF z) i = z i := shortZ_zF z
    have : zF (shortZ (zF z)) = zF z := by
      unfold zF
      have m : ∀ t, t ≤ 6 → mF (shortZ (mF z 6)) t = mF z t := by
        intro t
        induction t with
        | zero => exact fun _ => rfl
        | succ t ih =>
          intro ht
          show upd (mF _ t) (placeZ t) (shortZ (mF z 6) t) = upd (mF z t) (placeZ t) (z t)
          rw [ih (by omega), show shortZ (mF z 6) t = z t from e t (by omega)]
      exact m 6 (by omega)
    have h5 : okZ (shortZ (zF z)) = okZ z := by unfold okZ; rw [this]
    rw [← h5]; exact k1
theorem zF_back (z : Nat → Int) : ∀ i j, i < 3 → j < 3 → mE 3 (zF (backZ z)) i j = swap (mE 3 (zF z)) i j := by
  obtain ⟨a0, a1, a2, a3, a4, a5, a6, a7, a8⟩ := zF_vals z
  obtain ⟨b0, b1, b2, b3, b4, b5, b6, b7, b8⟩ := zF_vals (backZ z)
  intro i j hi hj
  have hi : i = 0 ∨ i = 1 ∨ i = 2 := by omega
  have hj : j = 0 ∨ j = 1 ∨ j = 2 := by omega
  rcases hi with rfl | rfl | rfl <;> rcases hj with rfl | rfl | rfl
  · show eb (zF (backZ z) 0) = eb (zF z 0); rw [a0, b0]
  · show eb (zF (backZ z) 1) = eb (zF z 2); rw [a2, b1]; rfl
  · show eb (zF (backZ z) 2) = eb (zF z 1); rw [a1, b2]; rfl
  · show eb (zF (backZ z) 3) = eb (zF z 6); rw [a6, b3]; rfl
  · show eb (zF (backZ z) 4) = eb (zF z 8); rw [a8, b4]
  · show eb (zF (backZ z) 5) = eb (zF z 7); rw [a7, b5]; rfl
  · show eb (zF (backZ z) 6) = eb (zF z 3); rw [a3, b6]; rfl
  · show eb (zF (backZ z) 7) = eb (zF z 5); rw [a5, b7]; rfl
  · show eb (zF (backZ z) 8) = eb (zF z 4); rw [a4, b8]
theorem okD_zF {z : Nat → Int} : okD (3 : Nat) (3 * 3) (zF z) = true ↔ ∀ t, t < 6 → mayB (z t) = true := by
  constructor
  · intro h t ht
    rw [← shortZ_zF z t ht]
    exact okD_may h _ (placeZ_lt t ht)
  · intro h
    obtain ⟨a0, a1, a2, a3, a4, a5, a6, a7, a8⟩ := zF_vals z
    refine okD_of (f := topF 3) (by decide) fun x hx => ?_
    rcases nine (by omega : x < 9) with rfl | rfl | rfl | rfl | rfl | rfl | rfl | rfl | rfl
    · rw [a0]; rfl
    · rw [a1]; exact h 1 (by omega)
    · rw [a2]; exact h 3 (by omega)
    · rw [a3]; exact h 0 (by omega)
    · rw [a4]; rfl
    · rw [a5]; exact h 5 (by omega)
    · rw [a6]; exact h 2 (by omega)
    · rw [a7]; exact h 4 (by omega)
    · rw [a8]; rfl
theorem okZ_back {z : Nat → Int} (h : okZ z = true) : okZ (backZ z) = true := by
  have m := fun t (ht : t < 6) => okZ_may h ht
  rw [okZ_iff]
  refine ⟨okD_zF.2 fun t ht => ?_, closed3_congr (fun i j hi hj => (zF_back z i j hi hj).symm) (swap_closed (okZ_iff.1 h).2)⟩
  rcases six ht with rfl | rfl | rfl | rfl | rfl | rfl
  · exact m 2 (by omega)
  · exact m 3 (by omega)
  · exact m 0 (by omega)
  · exact m 1 (by omega)
  · exact m 5 (by omega)
  · exact m 4 (by omega)
def sw4 : Nat → Nat
  | 1 => 3 | 3 => 1 | i => i
theorem compIn_back {a b : Nat → Int} {q : Nat → Nat → EB} (h : CompIn a b q) : CompIn (backZ b) (backZ a) (swap q) := by
  obtain ⟨Q, h1, h2, h3, h4⟩ := h
  have hsw : ∀ i, i ∈ [0, 1, 2, 3] → sw4 i ∈ [0, 1, 2, 3] := by decide
  have hR : ClosedL [0, 1, 2, 3] (fun i j => Q (sw4 i) (sw4 j)) := ⟨fun i hi => h1.1 _ (hsw i hi), fun i j k hi hj hk => h1.2 _ _ _ (hsw i hi) (hsw j hj) (hsw k hk)⟩
  refine ⟨fun i j => Q (sw4 i) (sw4 j), hR, ?_, ?_, ?_⟩
  · rw [back_swap (res_closed hR (by simp) (by simp) (by simp))]
    refine ZU_le (fun i j hi hj => ?_) h3
    have hi : i = 0 ∨ i = 1 ∨ i = 2 := by omega
    have hj : j = 0 ∨ j = 1 ∨ j = 2 := by omega
    rcases hi with rfl | rfl | rfl <;> rcases hj with rfl | rfl | rfl <;> exact ele_refl _
  · rw [back_swap (res_closed hR (by simp) (by simp) (by simp))]
    refine ZU_le (fun i j hi hj => ?_) h2
    have hi : i = 0 ∨ i = 1 ∨ i = 2 := by omega
    have hj : j = 0 ∨ j = 1 ∨ j = 2 := by omega
    rcases hi with rfl | rfl | rfl <;> rcases hj with rfl | rfl | rfl <;> exact ele_refl _
  · intro i j hi hj
    have k := h4 _ _ (sw_lt hi).1 (sw_lt hj).1
    show _ = q (sw i) (sw j)
    rw [← k]
    have hi : i = 0 ∨ i = 1 ∨ i = 2 := by omega
    have hj : j = 0 ∨ j = 1 ∨ j = 2 := by omega
    rcases hi with rfl | rfl | rfl <;> rcases hj with rfl | rfl | rfl <;> rfl
theorem zone_back_back {z : Nat → Int} {q : Nat → Nat → EB} : ZU (backZ (backZ z)) q ↔ ZU z q := by
  have h : ∀ i, i < 6 → backZ (backZ z) i = z i := fun i hi => by
    rcases six hi with rfl | rfl | rfl | rfl | rfl | rfl <;> rfl
  exact ⟨under3_congr (zF_congr h), under3_congr (zF_congr fun i hi => (h i hi).symm)⟩
/-- CompOrder: the other way round both change places. -/
theorem cback_law {a b : Nat → Int} (ha : okZ a = true) (hb : okZ b = true) : (compZ (backZ b) (backZ a)).2 = (compZ a b).2 ∧ ((compZ a b).2 = 0 → ∀ i, i < 6 → (compZ (backZ b) (backZ a)).1 i = backZ (compZ a b).1 i) := by
  have key : ∀ q, Closed 3 q → (CompIn (backZ b) (backZ a) q ↔ CompIn a b (swap q)) := fun q hq => by
    constructor
    · intro h
      have h2 := compIn_back h
      exact compIn_le (fun q _ => zone_back_back.1) (fun q _ => zone_back_back.1) h2
    · intro h
      obtain ⟨Q, q1, q2, q3, q4⟩ := compIn_back h
      exact ⟨Q, q1, q2, q3, fun i j hi hj => (q4 i j hi hj).trans (swap_swap i j hi hj)⟩
  rcases comp_max ha hb with ⟨h1, _, h2⟩ | ⟨f, _, _, h1, h2⟩
  · rcases comp_max (okZ_back hb) (okZ_back ha) with ⟨g1, _⟩ | ⟨g, _, _, g1, g2⟩
    · rw [h1, g1]; exact ⟨rfl, fun h => by simp at h⟩
    · exact absurd ((key _ g2.cl).1 ((g2.iff _ g2.cl).2 (under_refl 3 _))) (h2 _)
  · rcases comp_max (okZ_back hb) (okZ_back ha) with ⟨g1, _, g2⟩ | ⟨g, _, _, g1, g2⟩
    · refine absurd ((key _ (swap_closed h2.cl)).2 ?_) (g2 _)
      refine (h2.iff _ (swap_closed (swap_closed h2.cl))).2 fun i j hi hj => ?_
      rw [swap_swap i j hi hj]; exact ele_refl _
    · rw [h1, g1]
      have e : ∀ i j, i < 3 → j < 3 → dropF g (i * 3 + j) = dropF f (sw i * 3 + sw j) := fun i j hi hj => by
        refine eb_inj ?_
        show mE 3 (dropF g) i j = swap (mE 3 (dropF f)) i j
        refine ele_antisymm ?_ ?_
        · have k := (h2.iff _ (swap_closed g2.cl)).1 ((key _ g2.cl).1 ((g2.iff _ g2.cl).2 (under_refl 3 _))) (sw i) (sw j) (sw_lt hi).1 (sw_lt hj).1
          show ele (mE 3 (dropF g) i j) (mE 3 (dropF f) (sw i) (sw j))
          have e2 : swap (mE 3 (dropF g)) (sw i) (sw j) = mE 3 (dropF g) i j := swap_swap (q := mE 3 (dropF g)) i j hi hj
          rwa [e2] at k
        · refine (g2.iff _ (swap_closed h2.cl)).1 ((key _ (swap_closed h2.cl)).2 ?_) i j hi hj
          refine (h2.iff _ (swap_closed (swap_closed h2.cl))).2 fun i j hi hj => ?_
          rw [swap_swap i j hi hj]; exact ele_refl _
      have eo : okD (3 : Nat) (3 * 3) (dropF g) = okD (3 : Nat) (3 * 3) (dropF f) := by
        rw [Bool.eq_iff_iff]
        constructor
        · intro h
          refine okD_of h fun x hx => ?_
          obtain ⟨i, j, hi, hj, rfl⟩ := at_place (n := 3) hx
          have k := e (sw i) (sw j) (sw_lt hi).1 (sw_lt hj).1
          rw [(sw_lt hi).2, (sw_lt hj).2] at k
          rw [← k]
          exact okD_may h _ (place_lt (sw_lt hi).1 (sw_lt hj).1)
        · intro h
          refine okD_of h fun x hx => ?_
          obtain ⟨i, j, hi, hj, rfl⟩ := at_place (n := 3) hx
          rw [e i j hi hj]
          exact okD_may h _ (place_lt (sw_lt hi).1 (sw_lt hj).1)
      cases ok : okD (3 : Nat) (3 * 3) (dropF f)
      · rw [toldZ_bad ok, toldZ_bad (eo.trans ok)]; exact ⟨rfl, fun h => by simp at h⟩
      · rw [toldZ_ok ok, toldZ_ok (eo.trans ok)]
        refine ⟨rfl, fun _ i hi => ?_⟩
        rcases six hi with rfl | rfl | rfl | rfl | rfl | rfl
        · exact e 1 0 (by omega) (by omega)
        · exact e 0 1 (by omega) (by omega)
        · exact e 2 0 (by omega) (by omega)
        · exact e 0 2 (by omega) (by omega)
        · exact e 2 1 (by omega) (by omega)
        · exact e 1 2 (by omega) (by omega)
/-- CompOrder: a lesser zone composes to a lesser one. -/
theorem cless_law {a b c l m x : Nat → Int} (h1 : meetZ a c = (l, 0)) (h2 : compZ l b = (m, 0)) (h3 : compZ a b = (x, 0)) : inZ m x = (true, 0) := by
  obtain ⟨hl, hb, hm, um⟩ := comp_ok h2
  obtain ⟨ha, _, hx, ux⟩ := comp_ok h3
  have hc : okZ c = true := by
    cases hc : okZ c
    · rw [meetZ_bad (by rw [hc, Bool.and_false])] at h1; simp at h1
    · rfl
  have sub : ∀ q, Closed 3 q → ZU l q → ZU a q := by
    rw [meetZ_ok ha hc] at h1
    have ok := okD_less (okZ_okD ha) (okZ_okD hc)
    rcases closeM_cases ok with ⟨f, hf, K⟩ | ⟨hf, _⟩
    · rw [show closeM (3 : Nat) (3 * 3) (lessF (zF a) (zF c)) = ⟨(3 : Nat), 3 * 3, f, 0⟩ from hf, if_pos rfl] at h1
      obtain ⟨_, e⟩ := okZ_told K.closed.1 h1
      intro q hq hu
      have h5 : Under 3 q (mE 3 f) := under3_congr e hu
      exact ((under_less (okZ_le ha) (okZ_le hc)).1 ((K.iff hq).2 h5)).1
    · rw [hf] at h1
      rw [if_neg (by simp [errM])] at h1
      simp [errM] at h1
  rw [inZ_ok hm hx]
  congr 1
  refine (in_iff hm hx).2 fun q hq hu => ?_
  exact (ux q hq).2 (compIn_le sub (fun _ _ h => h) ((um q hq).1 hu))
end Go.Proofs.Ytbgbhfcnadjhdaa
