/- Plain laws: times keep what has a bound more just if they keep both. No condition. -/
import Derived.Test.YtlcbpckinjkfeaaE1
namespace Go.Proofs.Ytlcbpckinjkfeaa
set_option linter.unusedSimpArgs false
set_option linter.unusedVariables false
open Go Go.RowKit

theorem keepsD_ok {n : Int} {N : Nat} {f : Nat → Int} {M : Nat} {T : Nat → Int × Int} {b : Bool} (h : keepsD n N f M T = (b, 0)) :
    ∃ m : Nat, n = (m : Int) ∧ N = m * m ∧ M + 1 = m ∧ m ≤ 4 ∧ okD m (m * m) f = true ∧ allRat M T = true ∧ b = keptAll m f T := by
  unfold keepsD at h
  cases h1 : okD n N f
  · rw [h1] at h; simp at h
  · cases h2 : allRat M T
    · rw [h1, h2] at h; simp at h
    · rw [h1, h2] at h
      obtain ⟨m, rfl, rfl, hm0, hm4⟩ := okD_form h1
      by_cases e : (M : Int) = (m : Int) - 1
      · rw [if_pos e] at h
        simp only [Bool.and_self, if_true, Prod.mk.injEq, and_true] at h
        exact ⟨m, rfl, rfl, by omega, hm4, h1, rfl, h.symm⟩
      · rw [if_neg e] at h; simp at h
theorem keepsD_of {m : Nat} {f : Nat → Int} {M : Nat} {T : Nat → Int × Int} (h : okD m (m * m) f = true) (hT : allRat M T = true) (hM : M + 1 = m) : keepsD m (m * m) f M T = (keptAll m f T, 0) := by
  have e : (M : Int) = (m : Int) - 1 := by omega
  unfold keepsD
  rw [h, hT]
  simp [e]
theorem kept_more {n a b : Nat} {f : Nat → Int} {x : Int} {T : Nat → Int × Int} (h : ∀ i, i < n → 0 < (tm T i).2) (ha : a < n) (hb : b < n) (hf : ∀ i j, i < n → j < n → f (i * n + j) ≤ noneB) (hx : x ≤ noneB) :
    keptAll n (moreAt f (a * n + b) x) T = (keptAll n f T && keptB (tm T a).1 (tm T a).2 (tm T b).1 (tm T b).2 x) := by
  rw [Bool.eq_iff_iff, Bool.and_eq_true, kept_under h, kept_under h, under_more ha hb hf hx, keptB_iff (h a ha) (h b hb)]
  exact Iff.rfl
theorem kept_less {n : Nat} {f g : Nat → Int} {T : Nat → Int × Int} (h : ∀ i, i < n → 0 < (tm T i).2) (hf : ∀ i j, i < n → j < n → f (i * n + j) ≤ noneB) (hg : ∀ i j, i < n → j < n → g (i * n + j) ≤ noneB) :
    keptAll n (lessF f g) T = (keptAll n f T && keptAll n g T) := by
  rw [Bool.eq_iff_iff, Bool.and_eq_true, kept_under h, kept_under h, kept_under h, under_less hf hg]
/-- Times keep the closed one just if they keep the matrix. -/
theorem kept_close {m : Nat} {f : Nat → Int} {M : Nat} {T : Nat → Int × Int} (hok : okD m (m * m) f = true) (hT : allRat M T = true) (hM : M + 1 = m) :
    ((closeM m (m * m) f).e = 6 ∧ keptAll m f T = false) ∨ ((closeM m (m * m) f).e = 0 ∧ (okD (closeM m (m * m) f).n (closeM m (m * m) f).N (closeM m (m * m) f).f = true → keepsD (closeM m (m * m) f).n (closeM m (m * m) f).N (closeM m (m * m) f).f M T = (keptAll m f T, 0))) := by
  have ht : ∀ i, i < m → 0 < (tm T i).2 := fun i hi => tm_pos hT i (by omega)
  rcases closeM_cases hok with ⟨c, h1, K⟩ | ⟨h1, hno⟩
  · rw [h1]
    refine .inr ⟨rfl, fun ho => ?_⟩
    show keepsD m (m * m) c M T = _
    rw [keepsD_of ho hT hM, kept_same ht K]
  · rw [h1]
    refine .inl ⟨rfl, ?_⟩
    cases hk : keptAll m f T
    · rfl
    · exact absurd ((kept_under ht).1 hk) (none_no hno (tmE_closed ht))

theorem set_kept {n : Int} {N : Nat} {f : Nat → Int} {i j x : Int} {M : Nat} {T : Nat → Int × Int} {one : Bool} {c : MR} (hc : c = setM n N f i j x) (h1 : keepsD n N f M T = (one, 0)) (he : c.e = 0 ∨ c.e = 6) :
    ∃ (a b : Nat) (so : Bool), i = (a : Int) ∧ j = (b : Int) ∧ a < M + 1 ∧ b < M + 1 ∧ keepsPR (tm T a).1 (tm T a).2 (tm T b).1 (tm T b).2 x = (so, 0) ∧ (c.e = 6 → (one && so) = false) ∧ (okD c.n c.N c.f = true → c.e = 0 → keepsD c.n c.N c.f M T = (one && so, 0)) := by
  obtain ⟨m, rfl, rfl, hM, hm4, hok, hT, hb⟩ := keepsD_ok h1
  rcases setM_cases m (m * m) f i j x with ⟨e, h, h2⟩ | ⟨m', a, b, hm', _, _, _, rfl, rfl, ha, hb', hx, hf, h2⟩
  · rw [hc, h] at he; simp only [errM] at he; omega
  obtain rfl : m = m' := by omega
  have ht : ∀ i, i < m → 0 < (tm T i).2 := fun i hi => tm_pos hT i (by omega)
  have km := kept_more ht ha hb' (okD_le hf) (mayB_le hx)
  have okt : ∀ i, i < m → okRat (tm T i).1 (tm T i).2 = true := by
    intro i hi
    cases i with
    | zero => exact (by decide : okRat 0 1 = true)
    | succ i => exact allRat_iff.1 hT i (by omega)
  have hxB : okB x = true := bd_okB (mayB_bd hx) (by omega)
  refine ⟨a, b, keptB (tm T a).1 (tm T a).2 (tm T b).1 (tm T b).2 x, rfl, rfl, by omega, by omega, by rw [keepsPR, okt a ha, okt b hb', hxB]; rfl, ?_, ?_⟩
  · intro h6
    rw [hc, h2] at h6
    rcases kept_close (okD_more (x := a * m + b) hf hx) hT hM with ⟨_, h⟩ | ⟨h, _⟩
    · rw [hb, ← km]; exact h
    · rw [h] at h6; cases h6
  · intro ho h0
    rw [hc, h2] at ho h0 ⊢
    rcases kept_close (okD_more (x := a * m + b) hf hx) hT hM with ⟨h, _⟩ | ⟨_, h⟩
    · rw [h] at h0; cases h0
    · rw [hb, ← km]; exact h ho
theorem meet_kept {n1 : Int} {N1 : Nat} {f1 : Nat → Int} {n2 : Int} {N2 : Nat} {f2 : Nat → Int} {M : Nat} {T : Nat → Int × Int} {one two : Bool} {c : MR} (hc : c = meetM n1 N1 f1 n2 N2 f2) (h1 : keepsD n1 N1 f1 M T = (one, 0)) (h2 : keepsD n2 N2 f2 M T = (two, 0)) :
    (c.e = 6 ∧ (one && two) = false) ∨ (c.e = 0 ∧ (okD c.n c.N c.f = true → keepsD c.n c.N c.f M T = (one && two, 0))) := by
  obtain ⟨m, rfl, rfl, hM, hm4, ok1, hT, hb⟩ := keepsD_ok h1
  obtain ⟨m', rfl, rfl, hM', _, ok2, _, hb2⟩ := keepsD_ok h2
  obtain rfl : m = m' := by omega
  have ht : ∀ i, i < m → 0 < (tm T i).2 := fun i hi => tm_pos hT i (by omega)
  have km := kept_less (f := f1) (g := f2) ht (okD_le ok1) (okD_le ok2)
  have hm : c = closeM m (m * m) (lessF f1 f2) := by rw [hc, meetM, ok1, ok2]; simp
  rw [hm, hb, hb2, ← km]
  exact kept_close (okD_less ok1 ok2) hT hM
#print axioms set_kept
#print axioms meet_kept
end Go.Proofs.Ytlcbpckinjkfeaa
