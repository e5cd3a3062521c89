/- Plain laws: picked times keep the matrix; what two have in common; what is kept. No condition. -/
import Derived.Test.YtpaomeilfmeheaaDoorG12
import Derived.Test.YtpaomeilfmeheaaDoorMK
namespace Go.Proofs.YtpaomeilfmeheaaDoor
set_option linter.unusedSimpArgs false
set_option linter.unusedVariables false
open Go Go.RowKit

theorem pickR_ok {m : Nat} {f c : Nat → Int} (hc : closeM m (m * m) f = ⟨m, m * m, c, 0⟩) : pickR m (m * m) f = ⟨m - 1, fun k => q8 (pickT m c (k + 1)), 0⟩ := by
  unfold pickR; rw [hc]; rfl
theorem tm_q8 {m : Nat} {c : Nat → Int} (i : Nat) : tm (fun k => q8 (pickT m c (k + 1))) i = q8 (pickT m c i) := by
  cases i with
  | zero => rw [pickT_zero, q8_zero]; rfl
  | succ i => rfl
/-- Picked times keep the matrix, and may be handed in. -/
theorem picks_kept {m : Nat} {f c : Nat → Int} (hok : okD m (m * m) f = true) (K : ClosedI m f c) : allRat (m - 1) (fun k => q8 (pickT m c (k + 1))) = true ∧ keptAll m f (fun k => q8 (pickT m c (k + 1))) = true := by
  obtain ⟨h1, h2, hb⟩ := okD_bd hok
  have hr : allRat (m - 1) (fun k => q8 (pickT m c (k + 1))) = true := allRat_iff.2 fun x hx => q8_ok (picks_ok h2 hb K (by omega) (by omega)).2
  refine ⟨hr, ?_⟩
  have hp := tm_pos hr
  rw [kept_same (fun i hi => hp i (by omega)) K, keptAll_iff]
  intro i j hi hj
  rw [tm_q8, tm_q8, keep8, decide_eq_true_iff]
  exact picks_keep K h2 hi hj
theorem picks_fits {n : Int} {N : Nat} {f : Nat → Int} : FitsR (pickR n N f).M (pickR n N f).T ∧ (pickR n N f).M ≤ 3 := by
  by_cases he : (closeM n N f).e = 0
  · cases hok : okD n N f
    · rw [closeM_bad hok] at he; simp [errM] at he
    · obtain ⟨m, rfl, rfl, hm0, hm4⟩ := okD_form hok
      rcases closeM_cases hok with ⟨c, hc, K⟩ | ⟨hc, _⟩
      · rw [pickR_ok hc]
        refine ⟨fun x hx => ?_, by simp only; omega⟩
        (try simp only at hx)
        exact ⟨q8_fits (picks_ok hm4 (okD_bd hok).2.2 K (by omega) (by omega)).2, q8_fits2 _⟩
      · rw [hc] at he; simp [errM] at he
  · have e : pickR n N f = ⟨0, fun _ => (0, 0), (closeM n N f).e⟩ := if_neg he
    rw [e]
    exact ⟨fun x hx => absurd hx (Nat.not_lt_zero _), by simp⟩
theorem pickR_e (n : Int) (N : Nat) (f : Nat → Int) : (pickR n N f).e = (closeM n N f).e := by
  unfold pickR
  split
  · rename_i h; exact h.symm
  · rfl
/-- InclPicks. -/
theorem picks_law {n : Int} {N : Nat} {f : Nat → Int} {M : Nat} {T : Nat → Int × Int} {e : Int} (h : (⟨M, T, e⟩ : TR) = pickR n N f) :
    e = (closeM n N f).e ∧ (e ≠ 0 → M = 0) ∧ (e = 0 → (M : Int) = n - 1 ∧ 1 ≤ n ∧ n ≤ 4 ∧ keepsD n N f M T = (true, 0)) := by
  have he : e = (pickR n N f).e := congrArg TR.e h
  refine ⟨by rw [he, pickR_e], fun hne => ?_, fun h0 => ?_⟩
  · have e1 : pickR n N f = ⟨0, fun _ => (0, 0), (closeM n N f).e⟩ := if_neg (by rw [← pickR_e, ← he]; exact hne)
    rw [e1] at h; exact congrArg TR.M h
  · rw [he, pickR_e] at h0
    cases hok : okD n N f
    · rw [closeM_bad hok] at h0; simp [errM] at h0
    · obtain ⟨m, rfl, rfl, hm0, hm4⟩ := okD_form hok
      rcases closeM_cases hok with ⟨c, hc, K⟩ | ⟨hc, _⟩
      · rw [pickR_ok hc] at h
        have e1 : M = m - 1 := congrArg TR.M h
        have e2 : T = _ := congrArg TR.T h
        simp only at e2
        obtain ⟨k1, k2⟩ := picks_kept hok K
        refine ⟨by omega, by omega, by omega, ?_⟩
        rw [e1, e2, keepsD_of hok k1 (by omega), k2]
      · rw [hc] at h0; simp [errM] at h0

theorem twoE_comm (n1 : Int) (N1 : Nat) (f1 : Nat → Int) (n2 : Int) (N2 : Nat) (f2 : Nat → Int) : twoE n1 N1 f1 n2 N2 f2 = twoE n2 N2 f2 n1 N1 f1 := by
  unfold twoE
  rw [Bool.and_comm]
  by_cases e : n1 = n2
  · subst e; rfl
  · have e' : ¬ n2 = n1 := fun h => e h.symm
    simp only [if_neg e, if_neg e']
theorem meetM_e {n1 : Int} {N1 : Nat} {f1 : Nat → Int} {n2 : Int} {N2 : Nat} {f2 : Nat → Int} (h : twoE n1 N1 f1 n2 N2 f2 ≠ 0) : (meetM n1 N1 f1 n2 N2 f2).e = twoE n1 N1 f1 n2 N2 f2 := by
  unfold twoE at *
  unfold meetM
  cases hb : (okD n1 N1 f1 && okD n2 N2 f2)
  · simp [errM]
  · rw [hb] at h
    simp only [if_true] at h ⊢
    by_cases e : n1 = n2
    · rw [if_pos e] at h; exact absurd rfl h
    · rw [if_neg e, if_neg e]; rfl

/-- InclCommon. -/
theorem common_law {na : Int} {Na : Nat} {fa : Nat → Int} {nb : Int} {Nb : Nat} {fb : Nat → Int} {nd : Int} {Nd : Nat} {fd : Nat → Int} {n : Int} {N : Nat} {g : Nat → Int} {e f h : Int} {apart inn : Bool}
    (h1 : (⟨n, N, g, e⟩ : MR) = meetM na Na fa nb Nb fb) (h2 : (apart, f) = apR na Na fa nb Nb fb) (h3 : (inn, h) = inR na Na fa nb Nb fb) :
    f = h ∧ (f ≠ 0 → e = f) ∧ (f = 0 → apart = decide (e = 6)) ∧
    (f = 0 → e = 0 → okD n N g = true → inR n N g na Na fa = (true, 0) ∧ inR n N g nb Nb fb = (true, 0) ∧ (closeM na Na fa).e = 0 ∧ inn = sameM ⟨n, N, g, e⟩ (closeM na Na fa) ∧
      ∀ p q r j k l, (p, j) = inR nd Nd fd na Na fa → (q, k) = inR nd Nd fd nb Nb fb → (r, l) = inR nd Nd fd n N g → j = 0 → k = 0 → l = 0 → r = (p && q)) := by
  obtain ⟨a1, a2, a3⟩ := apR_cases h2
  obtain ⟨b1, b2, b3⟩ := inR_cases h3
  refine ⟨by rw [a1, b1], fun hne => ?_, fun h0 => ?_, fun h0 he hok => ?_⟩
  · have := meetM_e (by rw [← a1]; exact hne)
    rw [← h1, ← a1] at this; exact this
  · rw [apR_ok (by rw [← a1]; exact h0), ← h1] at h2
    exact congrArg Prod.fst h2
  · obtain ⟨m, rfl, rfl, rfl, rfl, hm0, hm4, oa, ob, hin⟩ := b3 (by rw [b1, ← a1]; exact h0)
    rw [meet_e oa ob] at h1
    have hu := fun q => under_less (q := q) (okD_le oa) (okD_le ob)
    rcases closeM_cases (okD_less oa ob) with ⟨c, hc, K⟩ | ⟨hc, _⟩
    · rw [hc] at h1
      simp only [MR.mk.injEq] at h1
      obtain ⟨rfl, rfl, rfl, _⟩ := h1
      have z1 : twoE m (m * m) g m (m * m) fa = 0 := by unfold twoE; rw [hok, oa]; simp
      have z2 : twoE m (m * m) g m (m * m) fb = 0 := by unfold twoE; rw [hok, ob]; simp
      have ia : InP m g fa := fun q hq hu' => ((hu q).1 ((K.iff hq).2 hu')).1
      have ib : InP m g fb := fun q hq hu' => ((hu q).1 ((K.iff hq).2 hu')).2
      refine ⟨?_, ?_, ?_, ?_, ?_⟩
      · rw [inR_ok z1, (inB_iff hok oa).2 ia]
      · rw [inR_ok z2, (inB_iff hok ob).2 ib]
      · rcases closeM_cases oa with ⟨c', h, _⟩ | ⟨h, hno⟩
        · rw [h]
        · exact absurd (((hu _).1 K.closed.2).1) (none_no hno K.closed.1)
      · rcases closeM_cases oa with ⟨c', h, K'⟩ | ⟨h, hno⟩
        · have s1 := (closeM_eq (okD_less oa ob) oa)
          rw [Bool.eq_iff_iff, hin]
          constructor
          · intro hi
            have := (s1 fun q hq => ⟨fun h => ((hu q).1 h).1, fun h => (hu q).2 ⟨h, hi q hq h⟩⟩).2
            rwa [hc] at this
          · intro hs q hq hf
            rw [h] at hs
            have he : ∀ x, x < m * m → g x = c' x := by
              simp only [sameM, sameB, decide_true, Bool.true_and] at hs
              exact eqB_iff.1 hs
            have hq' : Under m q (mE m g) := fun i j hi hj => by
              have := (K'.iff hq).1 hf i j hi hj
              show ele _ (eb (g (i * m + j)))
              rw [he _ (place_lt hi hj)]; exact this
            exact ((hu q).1 ((K.iff hq).2 hq')).2
        · exact absurd (((hu _).1 K.closed.2).1) (none_no hno K.closed.1)
      · intro p q r j k l e1 e2 e3 hj hk hl
        obtain ⟨_, _, p3⟩ := inR_cases e1
        obtain ⟨_, _, q3⟩ := inR_cases e2
        obtain ⟨_, _, r3⟩ := inR_cases e3
        obtain ⟨m1, rfl, k1, rfl, _, _, _, od, _, hp⟩ := p3 hj
        obtain rfl : m1 = m := by omega
        obtain ⟨m2, k2, _, _, _, _, _, _, _, hq⟩ := q3 hk
        obtain rfl : m1 = m2 := by omega
        obtain ⟨m3, k3, _, _, _, _, _, _, _, hr⟩ := r3 hl
        obtain rfl : m1 = m3 := by omega
        rw [Bool.eq_iff_iff, Bool.and_eq_true, hr, hp, hq]
        constructor
        · intro h
          exact ⟨fun q' a b => ia q' a (h q' a b), fun q' a b => ib q' a (h q' a b)⟩
        · rintro ⟨x, y⟩ q' a b
          exact (K.iff a).1 ((hu q').2 ⟨x q' a b, y q' a b⟩)
    · rw [hc] at h1
      have := congrArg MR.e h1
      simp [errM] at this
      rw [he] at this; cases this

/-- InclKept. -/
theorem kept_law {na : Int} {Na : Nat} {fa : Nat → Int} {nb : Int} {Nb : Nat} {fb : Nat → Int} {M : Nat} {T : Nat → Int × Int} {e f g h i : Int} {inn back apart one two : Bool}
    (h1 : (inn, e) = inR na Na fa nb Nb fb) (h2 : (back, f) = inR nb Nb fb na Na fa) (h3 : (apart, g) = apR na Na fa nb Nb fb) (h4 : (one, h) = keepsD na Na fa M T) (h5 : (two, i) = keepsD nb Nb fb M T) :
    e = f ∧ e = g ∧ (e = 0 → h = 0 → i = 0 → (inn = true → one = true → two = true) ∧ (back = true → two = true → one = true) ∧ ¬ (apart = true ∧ one = true ∧ two = true)) := by
  obtain ⟨a1, a2, a3⟩ := inR_cases h1
  obtain ⟨b1, b2, b3⟩ := inR_cases h2
  obtain ⟨c1, c2, c3⟩ := apR_cases h3
  refine ⟨by rw [a1, b1, twoE_comm], by rw [a1, c1], fun he hh hi => ?_⟩
  obtain ⟨m, rfl, rfl, rfl, rfl, hm0, hm4, oa, ob, hin⟩ := a3 he
  obtain ⟨m2, k1, _, _, _, _, _, _, _, hback⟩ := b3 (by rw [b1, twoE_comm, ← a1]; exact he)
  obtain rfl : m = m2 := by omega
  have hap := c3 (by rw [c1, ← a1]; exact he) m rfl rfl rfl rfl oa ob
  subst hh hi
  obtain ⟨m3, x1, _, x3, x4, x5, x6, x7⟩ := keepsD_ok h4.symm
  obtain rfl : m = m3 := by omega
  obtain ⟨m4, y1, _, _, y4, y5, y6, y7⟩ := keepsD_ok h5.symm
  obtain rfl : m = m4 := by omega
  have hp : ∀ i, i < m → 0 < (tm T i).2 := fun i hi => tm_pos x6 i (by omega)
  have cl := tmE_closed hp
  have ua := kept_under (f := fa) hp
  have ub := kept_under (f := fb) hp
  refine ⟨fun p q => ?_, fun p q => ?_, fun ⟨p, q, r⟩ => ?_⟩
  · rw [y7, ub]; rw [x7, ua] at q; exact hin.1 p _ cl q
  · rw [x7, ua]; rw [y7, ub] at q; exact hback.1 p _ cl q
  · rw [x7, ua] at q; rw [y7, ub] at r; exact hap.1 p _ cl q r
/-- InclKept: with picked times. -/
theorem kept_law2 {na : Int} {Na : Nat} {fa : Nat → Int} {nb : Int} {Nb : Nat} {fb : Nat → Int} {M : Nat} {T : Nat → Int × Int} {e g j k : Int} {inn apart it : Bool}
    (h1 : (inn, e) = inR na Na fa nb Nb fb) (h3 : (apart, g) = apR na Na fa nb Nb fb) (h6 : (⟨M, T, j⟩ : TR) = pickR na Na fa) (h7 : (it, k) = keepsD nb Nb fb M T) (he : e = 0) :
    (j ≠ 0 → inn = true ∧ apart = true) ∧ (j = 0 → k = 0 ∧ (inn = true → it = true) ∧ (apart = true → it = false) ∧ ¬ (inn = true ∧ apart = true)) := by
  obtain ⟨a1, a2, a3⟩ := inR_cases h1
  obtain ⟨c1, c2, c3⟩ := apR_cases h3
  obtain ⟨p1, p2, p3⟩ := picks_law h6
  obtain ⟨m, rfl, rfl, rfl, rfl, hm0, hm4, oa, ob, hin⟩ := a3 he
  have hap := c3 (by rw [c1, ← a1]; exact he) m rfl rfl rfl rfl oa ob
  refine ⟨fun hj => ?_, fun hj => ?_⟩
  · rw [p1] at hj
    rcases closeM_cases oa with ⟨c, hc, K⟩ | ⟨hc, hno⟩
    · rw [hc] at hj; exact absurd rfl hj
    · exact ⟨hin.2 fun q hq hu => absurd hu (none_no hno hq), hap.2 fun q hq hu => absurd hu (none_no hno hq)⟩
  · obtain ⟨q1, q2, q3, q4⟩ := p3 hj
    obtain ⟨m3, x1, _, x3, x4, x5, x6, x7⟩ := keepsD_ok q4
    obtain rfl : m = m3 := by omega
    rw [keepsD_of ob x6 x3] at h7
    simp only [Prod.mk.injEq] at h7
    obtain ⟨rfl, rfl⟩ := h7
    have hp : ∀ i, i < m → 0 < (tm T i).2 := fun i hi => tm_pos x6 i (by omega)
    have cl := tmE_closed hp
    have ua := (kept_under (f := fa) hp).1 x7.symm
    have ub := kept_under (f := fb) hp
    refine ⟨rfl, fun p => ub.2 (hin.1 p _ cl ua), fun p => ?_, fun ⟨p, q⟩ => hap.1 q _ cl ua (hin.1 p _ cl ua)⟩
    rw [← Bool.not_eq_true, ub]
    exact hap.1 p _ cl ua
#print axioms kept_law
end Go.Proofs.YtpaomeilfmeheaaDoor
