/- Plain laws: zones that may be, what two have in common, picked points. No condition. -/
import Derived.Test.YtpmpapenjcemjaaGreatDoorH2
namespace Go.Proofs.YtpmpapenjcemjaaGreatDoor
set_option linter.unusedSimpArgs false
set_option linter.unusedVariables false
open Go Go.RowKit

theorem okZ_facts {z : Nat → Int} (h : okZ z = true) : okD (3 : Nat) (3 * 3) (zF z) = true ∧ ∃ c, closeM (3 : Nat) (3 * 3) (zF z) = ⟨(3 : Nat), 3 * 3, c, 0⟩ ∧ ClosedI 3 (zF z) c ∧ ∀ x, x < 9 → c x = zF z x := by
  have h' : (decide ((closeM (3 : Nat) (3 * 3) (zF z)).e = 0) && sameM (closeM (3 : Nat) (3 * 3) (zF z)) ⟨(3 : Nat), 3 * 3, zF z, 0⟩) = true := h
  simp only [Bool.and_eq_true, decide_eq_true_eq] at h'
  obtain ⟨he, hs⟩ := h'
  have hok : okD (3 : Nat) (3 * 3) (zF z) = true := by
    cases hk : okD (3 : Nat) (3 * 3) (zF z)
    · rw [closeM_bad hk] at he; simp [errM] at he
    · rfl
  refine ⟨hok, ?_⟩
  rcases closeM_cases hok with ⟨c, hc, K⟩ | ⟨hc, _⟩
  · refine ⟨c, hc, K, ?_⟩
    rw [hc] at hs
    simp only [sameM, sameB, decide_true, Bool.true_and] at hs
    exact eqB_iff.1 hs
  · rw [hc] at he; simp [errM] at he
theorem nine {x : Nat} (h : x < 9) : x = 0 ∨ x = 1 ∨ x = 2 ∨ x = 3 ∨ x = 4 ∨ x = 5 ∨ x = 6 ∨ x = 7 ∨ x = 8 := by omega
theorem six {x : Nat} (h : x < 6) : x = 0 ∨ x = 1 ∨ x = 2 ∨ x = 3 ∨ x = 4 ∨ x = 5 := by omega
theorem zF_short {f c : Nat → Int} (K : ClosedI 3 f c) : ∀ x, x < 9 → zF (shortZ c) x = c x := by
  have d0 : c 0 = 1 := K.diag (i := 0) (by omega)
  have d4 : c 4 = 1 := K.diag (i := 1) (by omega)
  have d8 : c 8 = 1 := K.diag (i := 2) (by omega)
  obtain ⟨a0, a1, a2, a3, a4, a5, a6, a7, a8⟩ := zF_vals (shortZ c)
  intro x hx
  rcases nine hx with rfl | rfl | rfl | rfl | rfl | rfl | rfl | rfl | rfl
  · rw [a0, d0]
  · exact a1
  · exact a2
  · exact a3
  · rw [a4, d4]
  · exact a5
  · exact a6
  · exact a7
  · rw [a8, d8]
theorem zF_congr {a b : Nat → Int} (h : ∀ i, i < 6 → a i = b i) : ∀ x, x < 9 → zF a x = zF b x := by
  obtain ⟨a0, a1, a2, a3, a4, a5, a6, a7, a8⟩ := zF_vals a
  obtain ⟨b0, b1, b2, b3, b4, b5, b6, b7, b8⟩ := zF_vals b
  intro x hx
  rcases nine hx with rfl | rfl | rfl | rfl | rfl | rfl | rfl | rfl | rfl
  · rw [a0, b0]
  · rw [a1, b1]; exact h 1 (by omega)
  · rw [a2, b2]; exact h 3 (by omega)
  · rw [a3, b3]; exact h 0 (by omega)
  · rw [a4, b4]
  · rw [a5, b5]; exact h 5 (by omega)
  · rw [a6, b6]; exact h 2 (by omega)
  · rw [a7, b7]; exact h 4 (by omega)
  · rw [a8, b8]
theorem zone_of_zF {a b : Nat → Int} (h : ∀ x, x < 9 → zF a x = zF b x) : ∀ i, i < 6 → a i = b i := fun i hi => by
  rw [← shortZ_zF a i hi, ← shortZ_zF b i hi]
  exact h _ (placeZ_lt i hi)
theorem mE3_congr {f g : Nat → Int} (h : ∀ x, x < 9 → f x = g x) : ∀ i j, i < 3 → j < 3 → mE 3 f i j = mE 3 g i j := fun i j hi hj => by
  show eb _ = eb _
  rw [h _ (by have := place_lt hi hj; omega)]
theorem under3_congr {f g : Nat → Int} {q : Nat → Nat → EB} (h : ∀ x, x < 9 → f x = g x) (hu : Under 3 q (mE 3 f)) : Under 3 q (mE 3 g) := fun i j hi hj => by
  rw [← mE3_congr h i j hi hj]; exact hu i j hi hj
/-- The zone of a closed matrix that may be handed in may be. -/
theorem okZ_of {f c : Nat → Int} (K : ClosedI 3 f c) (hok : okD (3 : Nat) (3 * 3) c = true) : okZ (shortZ c) = true := by
  have hz := zF_short K
  have hz' : ∀ x, x < 9 → c x = zF (shortZ c) x := fun x hx => (hz x hx).symm
  have hok' : okD (3 : Nat) (3 * 3) (zF (shortZ c)) = true := okD_of hok fun x hx => by rw [hz x hx]; exact okD_may hok x hx
  show (decide ((closeM (3 : Nat) (3 * 3) (zF (shortZ c))).e = 0) && sameM (closeM (3 : Nat) (3 * 3) (zF (shortZ c))) ⟨(3 : Nat), 3 * 3, zF (shortZ c), 0⟩) = true
  have hu : Under 3 (mE 3 c) (mE 3 (zF (shortZ c))) := under3_congr hz' fun i j _ _ => ele_refl _
  rcases closeM_cases hok' with ⟨c', hc, K'⟩ | ⟨hc, hno⟩
  · rw [hc]
    have : sameM ⟨(3 : Nat), 3 * 3, c', 0⟩ ⟨(3 : Nat), 3 * 3, zF (shortZ c), 0⟩ = true := sameB_of fun x hx => by
      show c' x = zF (shortZ c) x
      rw [hz x (by omega)]
      obtain ⟨i, j, hi, hj, rfl⟩ := at_place hx
      exact eb_inj (K'.pt K.closed.1 hu (fun q _ hu' => under3_congr hz hu') i j hi hj)
    rw [this]; rfl
  · exact absurd hu (none_no hno K.closed.1)

/-- A point's two times. -/
def pt (a b c d : Int) : Nat → Int × Int
  | 0 => (a, b) | _ => (c, d)
def hasZ (z : Nat → Int) (T : Nat → Int × Int) : Bool × Int := if okZ z && (okRat (T 0).1 (T 0).2 && okRat (T 1).1 (T 1).2) then keepsD 3 9 (zF z) 2 T else (false, 8)
def inZ (a b : Nat → Int) : Bool × Int := if okZ a && okZ b then inR 3 9 (zF a) 3 9 (zF b) else (false, 8)
def meetZ (a b : Nat → Int) : (Nat → Int) × Int :=
  if okZ a && okZ b then (if (meetM 3 9 (zF a) 3 9 (zF b)).e = 0 then toldZ (meetM 3 9 (zF a) 3 9 (zF b)).f else (fun _ => 0, (meetM 3 9 (zF a) 3 9 (zF b)).e)) else (fun _ => 0, 8)
def pickZ (z : Nat → Int) : (Nat → Int × Int) × Int := if okZ z then ((pickR 3 9 (zF z)).T, 0) else (fun _ => (0, 0), 8)

theorem rat2 {T : Nat → Int × Int} : allRat 2 T = (okRat (T 0).1 (T 0).2 && okRat (T 1).1 (T 1).2) := by
  rw [Bool.eq_iff_iff, allRat_iff, Bool.and_eq_true]
  constructor
  · exact fun h => ⟨h 0 (by omega), h 1 (by omega)⟩
  · intro h x hx
    have : x = 0 ∨ x = 1 := by omega
    rcases this with rfl | rfl
    · exact h.1
    · exact h.2
theorem keepsD_two {n : Int} {N : Nat} {f : Nat → Int} {T U : Nat → Int × Int} (h0 : T 0 = U 0) (h1 : T 1 = U 1) : keepsD n N f 2 T = keepsD n N f 2 U := by
  have ha : allRat 2 T = allRat 2 U := by rw [rat2, rat2, h0, h1]
  unfold keepsD
  rw [ha]
  by_cases h2 : ((2 : Nat) : Int) = n - 1
  · obtain rfl : n = 3 := by omega
    have hk : keptAll (3 : Int).toNat f T = keptAll (3 : Int).toNat f U := by
      show keptAll 3 f T = keptAll 3 f U
      have ht : ∀ i, i < 3 → tm T i = tm U i := by
        intro i hi
        have : i = 0 ∨ i = 1 ∨ i = 2 := by omega
        rcases this with rfl | rfl | rfl
        · rfl
        · exact h0
        · exact h1
      rw [Bool.eq_iff_iff, keptAll_iff, keptAll_iff]
      exact ⟨fun k i j hi hj => by rw [← ht i hi, ← ht j hj]; exact k i j hi hj, fun k i j hi hj => by rw [ht i hi, ht j hj]; exact k i j hi hj⟩
    rw [hk]
  · rw [if_neg h2, if_neg h2]
/-- A zone has a point. -/
theorem hasZ_ok {z : Nat → Int} {T : Nat → Int × Int} {b : Bool} (h : hasZ z T = (b, 0)) : okZ z = true ∧ allRat 2 T = true ∧ b = keptAll 3 (zF z) T := by
  unfold hasZ at h
  rw [← rat2] at h
  cases h1 : okZ z
  · rw [h1] at h; simp at h
  · cases h2 : allRat 2 T
    · rw [h1, h2] at h; simp at h
    · rw [h1, h2] at h
      have h' : keepsD (3 : Nat) (3 * 3) (zF z) 2 T = (b, 0) := h
      rw [keepsD_of (okZ_facts h1).1 h2 (by omega)] at h'
      exact ⟨rfl, rfl, (congrArg Prod.fst h').symm⟩
theorem hasZ_of {z : Nat → Int} {T : Nat → Int × Int} (h1 : okZ z = true) (h2 : allRat 2 T = true) : hasZ z T = (keptAll 3 (zF z) T, 0) := by
  unfold hasZ
  rw [← rat2, h1, h2]
  exact keepsD_of (m := 3) (okZ_facts h1).1 h2 rfl
theorem kept_congr3 {f g : Nat → Int} {T : Nat → Int × Int} (h : ∀ x, x < 9 → f x = g x) : keptAll 3 f T = keptAll 3 g T := by
  rw [Bool.eq_iff_iff, keptAll_iff, keptAll_iff]
  constructor
  · intro k i j hi hj; rw [← h _ (by have := place_lt hi hj; omega)]; exact k i j hi hj
  · intro k i j hi hj; rw [h _ (by have := place_lt hi hj; omega)]; exact k i j hi hj
theorem inZ_bad {a b : Nat → Int} (h : (okZ a && okZ b) = false) : inZ a b = (false, 8) := by unfold inZ; rw [h]; rfl
theorem inZ_ok {a b : Nat → Int} (ha : okZ a = true) (hb : okZ b = true) : inZ a b = (inB 3 (zF a) (zF b), 0) := by
  unfold inZ
  rw [ha, hb]
  have z : twoE (3 : Nat) (3 * 3) (zF a) (3 : Nat) (3 * 3) (zF b) = 0 := by unfold twoE; rw [(okZ_facts ha).1, (okZ_facts hb).1]; simp
  exact inR_ok z
theorem meetZ_bad {a b : Nat → Int} (h : (okZ a && okZ b) = false) : meetZ a b = (fun _ => 0, 8) := by unfold meetZ; rw [h]; rfl
theorem meetZ_ok {a b : Nat → Int} (ha : okZ a = true) (hb : okZ b = true) : meetZ a b = if (closeM (3 : Nat) (3 * 3) (lessF (zF a) (zF b))).e = 0 then toldZ (closeM (3 : Nat) (3 * 3) (lessF (zF a) (zF b))).f else (fun _ => 0, (closeM (3 : Nat) (3 * 3) (lessF (zF a) (zF b))).e) := by
  have e : meetM 3 9 (zF a) 3 9 (zF b) = closeM (3 : Nat) (3 * 3) (lessF (zF a) (zF b)) := meet_e (okZ_facts ha).1 (okZ_facts hb).1
  unfold meetZ
  rw [ha, hb, e]; rfl
theorem toldZ_ok {f : Nat → Int} (h : okD (3 : Nat) (3 * 3) f = true) : toldZ f = (shortZ f, 0) := if_pos h
theorem toldZ_bad {f : Nat → Int} (h : okD (3 : Nat) (3 * 3) f = false) : toldZ f = (fun _ => 0, 8) := if_neg (by rw [show okD 3 9 f = false from h]; simp)

/-- ZoneMeets. -/
theorem meets_law {a b m : Nat → Int} {e f g : Int} {x y : Bool} (h1 : (m, e) = meetZ a b) (h2 : (x, f) = inZ a b) (h3 : (y, g) = inZ b a) :
    (f = g ∧ (f ≠ 0 → e = 8)) ∧ (f = 0 → (x = true → y = true → ∀ i, i < 6 → a i = b i) ∧ (x = true ↔ e = 0 ∧ ∀ i, i < 6 → m i = a i) ∧
      ∀ (T : Nat → Int × Int) (one two : Bool) (h i : Int), (one, h) = hasZ a T → (two, i) = hasZ b T → h = 0 → i = 0 → (e = 6 → (one && two) = false) ∧ (e = 0 → hasZ m T = (one && two, 0) ∧ okZ m = true)) := by
  cases hab : (okZ a && okZ b)
  · rw [inZ_bad hab] at h2
    rw [inZ_bad (by rw [Bool.and_comm]; exact hab)] at h3
    rw [meetZ_bad hab] at h1
    simp only [Prod.mk.injEq] at h1 h2 h3
    obtain ⟨_, rfl⟩ := h1
    obtain ⟨_, rfl⟩ := h2
    obtain ⟨_, rfl⟩ := h3
    exact ⟨⟨rfl, fun _ => rfl⟩, fun h => by omega⟩
  · simp only [Bool.and_eq_true] at hab
    obtain ⟨ha, hb⟩ := hab
    rw [inZ_ok ha hb] at h2
    rw [inZ_ok hb ha] at h3
    rw [meetZ_ok ha hb] at h1
    obtain ⟨oa, ca, hca, Ka, ea⟩ := okZ_facts ha
    obtain ⟨ob, cb, hcb, Kb, eb'⟩ := okZ_facts hb
    simp only [Prod.mk.injEq] at h2 h3
    obtain ⟨h2, rfl⟩ := h2
    obtain ⟨h3, rfl⟩ := h3
    have hx : x = true ↔ InP 3 (zF a) (zF b) := by rw [h2]; exact inB_iff oa ob
    have hy : y = true ↔ InP 3 (zF b) (zF a) := by rw [h3]; exact inB_iff ob oa
    have hu := fun q => under_less (q := q) (okD_le oa) (okD_le ob)
    refine ⟨⟨rfl, fun h => absurd rfl h⟩, fun _ => ⟨fun kx ky => ?_, ?_, ?_⟩⟩
    · have ix := hx.1 kx
      have iy := hy.1 ky
      refine zone_of_zF fun p hp => ?_
      rw [← ea p hp, ← eb' p hp]
      obtain ⟨i, j, hi, hj, rfl⟩ := at_place (n := 3) (by omega : p < 3 * 3)
      exact eb_inj (ele_antisymm ((Kb.iff Ka.closed.1).1 (ix _ Ka.closed.1 Ka.closed.2) i j hi hj) ((Ka.iff Kb.closed.1).1 (iy _ Kb.closed.1 Kb.closed.2) i j hi hj))
    · rw [hx]
      rcases closeM_cases (okD_less oa ob) with ⟨c, hc, K⟩ | ⟨hc, hno⟩
      · rw [hc] at h1
        simp only [if_true] at h1
        constructor
        · intro ix
          have hcx : ∀ p, p < 9 → c p = zF a p := by
            intro p hp
            rw [← ea p hp]
            obtain ⟨i, j, hi, hj, rfl⟩ := at_place (n := 3) (by omega : p < 3 * 3)
            refine eb_inj (ele_antisymm ((Ka.iff K.closed.1).1 ((hu _).1 K.closed.2).1 i j hi hj) ((K.iff Ka.closed.1).1 ((hu _).2 ⟨Ka.closed.2, ix _ Ka.closed.1 Ka.closed.2⟩) i j hi hj))
          have okc : okD (3 : Nat) (3 * 3) c = true := okD_of oa fun p hp => by rw [hcx p hp]; exact okD_may oa p hp
          rw [toldZ_ok okc] at h1
          simp only [Prod.mk.injEq] at h1
          obtain ⟨rfl, rfl⟩ := h1
          exact ⟨rfl, fun i hi => by rw [← shortZ_zF a i hi]; exact hcx _ (placeZ_lt i hi)⟩
        · rintro ⟨h0, hm⟩
          cases okc : okD (3 : Nat) (3 * 3) c
          · rw [toldZ_bad okc] at h1
            simp only [Prod.mk.injEq] at h1
            omega
          · rw [toldZ_ok okc] at h1
            simp only [Prod.mk.injEq] at h1
            obtain ⟨rfl, rfl⟩ := h1
            have hcx : ∀ p, p < 9 → zF a p = c p := fun p hp => by rw [← zF_short K p hp]; exact (zF_congr hm p hp).symm
            intro q hq hqa
            exact ((hu q).1 ((K.iff hq).2 (under3_congr hcx hqa))).2
      · rw [hc] at h1
        simp only [errM] at h1
        constructor
        · intro ix
          exact absurd ((hu _).2 ⟨Ka.closed.2, ix _ Ka.closed.1 Ka.closed.2⟩) (none_no hno Ka.closed.1)
        · rintro ⟨h0, _⟩
          have h2 := congrArg Prod.snd h1
          simp at h2; omega
    · intro T one two h i ho ht h0 i0
      subst h0 i0
      obtain ⟨_, hT, k1⟩ := hasZ_ok ho.symm
      obtain ⟨_, _, k2⟩ := hasZ_ok ht.symm
      rw [k1, k2]
      have hp : ∀ i, i < 3 → 0 < (tm T i).2 := fun i hi => tm_pos hT i (by omega)
      rw [← kept_less (f := zF a) (g := zF b) hp (okD_le oa) (okD_le ob)]
      rcases closeM_cases (okD_less oa ob) with ⟨c, hc, K⟩ | ⟨hc, hno⟩
      · rw [hc] at h1
        simp only [if_true] at h1
        cases okc : okD (3 : Nat) (3 * 3) c
        · rw [toldZ_bad okc] at h1
          simp only [Prod.mk.injEq] at h1
          exact ⟨fun h => by omega, fun h => by omega⟩
        · rw [toldZ_ok okc] at h1
          simp only [Prod.mk.injEq] at h1
          obtain ⟨rfl, rfl⟩ := h1
          refine ⟨fun h => by omega, fun _ => ⟨?_, okZ_of K okc⟩⟩
          rw [hasZ_of (okZ_of K okc) hT, kept_congr3 (zF_short K), kept_same hp K]
      · rw [hc] at h1
        simp only [errM] at h1
        have h16 : e = 6 := by
          have h2 := congrArg Prod.snd h1
          simpa using h2
        refine ⟨fun _ => ?_, fun h => by omega⟩
        cases hk : keptAll 3 (lessF (zF a) (zF b)) T
        · rfl
        · exact absurd ((kept_under hp).1 hk) (none_no hno (tmE_closed hp))

/-- ZonePicks. -/
theorem zpicks_law {a : Nat → Int} {T : Nat → Int × Int} {e : Int} (h : (T, e) = pickZ a) :
    (e ≠ 0 → e = 8 ∧ okZ a = false) ∧ (e = 0 → okZ a = true ∧ FitsR 2 T ∧ hasZ a T = (true, 0) ∧ ∀ b x f, (x, f) = inZ a b → f = 0 → ∃ it, hasZ b T = (it, 0) ∧ (x = true → it = true)) := by
  unfold pickZ at h
  cases ha : okZ a
  · rw [ha] at h
    simp only [Bool.false_eq_true, if_false, Prod.mk.injEq] at h
    obtain ⟨_, rfl⟩ := h
    exact ⟨fun _ => ⟨rfl, rfl⟩, fun h => by omega⟩
  · rw [ha] at h
    simp only [if_true, Prod.mk.injEq] at h
    obtain ⟨hT, rfl⟩ := h
    obtain ⟨oa, ca, hca, Ka, ea⟩ := okZ_facts ha
    have hp : pickR 3 9 (zF a) = ⟨3 - 1, fun k => q8 (pickT 3 ca (k + 1)), 0⟩ := pickR_ok hca
    have fT := (picks_fits (n := 3) (N := 9) (f := zF a)).1
    rw [hp] at hT fT
    simp only at hT
    rw [← hT] at fT
    obtain ⟨k1, k2⟩ := picks_kept oa Ka
    rw [← hT] at k1 k2
    refine ⟨fun h => absurd rfl h, fun _ => ⟨rfl, fT, by rw [hasZ_of ha k1, k2], fun b x f hx hf => ?_⟩⟩
    subst hf
    cases hb : okZ b
    · rw [inZ_bad (by rw [ha, hb]; rfl)] at hx
      simp only [Prod.mk.injEq] at hx
      omega
    · rw [inZ_ok ha hb] at hx
      simp only [Prod.mk.injEq] at hx
      have hp : ∀ i, i < 3 → 0 < (tm T i).2 := fun i hi => tm_pos k1 i (by omega)
      refine ⟨_, hasZ_of hb k1, fun hxt => ?_⟩
      have hin := (inB_iff oa (okZ_facts hb).1).1 (by rw [← hx.1]; exact hxt)
      exact (kept_under hp).2 (hin _ (tmE_closed hp) ((kept_under hp).1 k2))
#print axioms meets_law
#print axioms zpicks_law
end Go.Proofs.YtpmpapenjcemjaaGreatDoor
