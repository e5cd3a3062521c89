/- Plain laws: a matrix with a clock in a span. No condition. -/
import Derived.Test.YtlcbpckinjkfeaaE2
namespace Go.Proofs.Ytlcbpckinjkfeaa
set_option linter.unusedSimpArgs false
set_option linter.unusedVariables false
open Go Go.RowKit

def spanB (lo hi : Int) (hs op : Bool) : Bool := decide (-288230376151711744 ≤ lo) && (decide (lo ≤ 288230376151711744) && (decide (hi ≤ 288230376151711744) && (if op then decide (hi = 0) && !hs else decide (lo ≤ hi))))
def belowB (lo : Int) (ls : Bool) : Int := mkB (-lo) ls
def aboveB (hi : Int) (hs op : Bool) : Int := if op then noneB else mkB hi hs
def betweenM (n : Int) (N : Nat) (f : Nat → Int) (i lo : Int) (ls : Bool) (hi : Int) (hs op : Bool) : MR :=
  if okD n N f then (if 0 ≤ i ∧ i < n then (if spanB lo hi hs op then closeM n N (moreAt (moreAt f i.toNat (belowB lo ls)) (i * n).toNat (aboveB hi hs op)) else errM 8) else errM 2) else errM 8

theorem spanB_bd {lo hi : Int} {hs op : Bool} (h : spanB lo hi hs op = true) : -288230376151711744 ≤ lo ∧ lo ≤ 288230376151711744 ∧ hi ≤ 288230376151711744 ∧ (op = true → hi = 0 ∧ hs = false) ∧ (op = false → lo ≤ hi) := by
  unfold spanB at h
  cases op <;> cases hs <;> simp at h ⊢ <;> omega
theorem mkB_num (c : Int) (s : Bool) : bnum (mkB c s) = c := by unfold mkB bnum; split <;> omega
theorem mkB_str (c : Int) (s : Bool) : bstr (mkB c s) = s := by
  unfold mkB bstr
  cases s <;> simp <;> omega
theorem mkB_may {c : Int} {s : Bool} (h1 : -288230376151711744 ≤ c) (h2 : c ≤ 288230376151711744) : mayB (mkB c s) = true := bd_mayB (.inr (by rw [mkB_num]; exact ⟨h1, h2⟩))
theorem belowB_may {lo hi : Int} {ls hs op : Bool} (h : spanB lo hi hs op = true) : mayB (belowB lo ls) = true := by
  have := spanB_bd h
  exact mkB_may (by omega) (by omega)
theorem aboveB_may {lo hi : Int} {hs op : Bool} (h : spanB lo hi hs op = true) : mayB (aboveB hi hs op) = true := by
  have := spanB_bd h
  unfold aboveB
  cases op
  · exact mkB_may (by have := this.2.2.2.2 rfl; omega) (by omega)
  · rfl
theorem mkB_some {c : Int} {s : Bool} (h1 : -288230376151711744 ≤ c) (h2 : c ≤ 288230376151711744) : mkB c s ≠ noneB := by unfold mkB noneB; split <;> omega

theorem betweenM_cases (n : Int) (N : Nat) (f : Nat → Int) (i lo : Int) (ls : Bool) (hi : Int) (hs op : Bool) :
    (∃ e, betweenM n N f i lo ls hi hs op = errM e ∧ (e = 2 ∨ e = 8)) ∨
    (∃ m a : Nat, n = (m : Int) ∧ N = m * m ∧ 1 ≤ m ∧ m ≤ 4 ∧ i = (a : Int) ∧ a < m ∧ spanB lo hi hs op = true ∧ okD m (m * m) f = true ∧ betweenM n N f i lo ls hi hs op = closeM m (m * m) (moreAt (moreAt f (0 * m + a) (belowB lo ls)) (a * m + 0) (aboveB hi hs op))) := by
  unfold betweenM
  cases hok : okD n N f
  · exact .inl ⟨8, rfl, .inr rfl⟩
  · obtain ⟨m, rfl, rfl, hm0, hm4⟩ := okD_form hok
    rw [if_pos rfl]
    by_cases h : 0 ≤ i ∧ i < (m : Int)
    · rw [if_pos h]
      obtain ⟨h1, h2⟩ := h
      obtain ⟨a, rfl⟩ : ∃ a : Nat, i = (a : Int) := ⟨i.toNat, by omega⟩
      cases hb : spanB lo hi hs op
      · exact .inl ⟨8, rfl, .inr rfl⟩
      · refine .inr ⟨m, a, rfl, rfl, hm0, hm4, rfl, by omega, rfl, hok, ?_⟩
        rw [if_pos rfl, show ((a : Int) * (m : Int)).toNat = a * m + 0 from by rw [show (a : Int) * (m : Int) = ((a * m : Nat) : Int) from by push_cast; rfl]; rfl, show ((a : Int)).toNat = 0 * m + a from by rw [Nat.zero_mul, Nat.zero_add]; rfl]
    · rw [if_neg h]; exact .inl ⟨2, rfl, .inl rfl⟩
theorem betweenM_ok (n : Int) (N : Nat) (f : Nat → Int) (i lo : Int) (ls : Bool) (hi : Int) (hs op : Bool) : MRok (betweenM n N f i lo ls hi hs op) := by
  rcases betweenM_cases n N f i lo ls hi hs op with ⟨e, h, _⟩ | ⟨m, a, _, _, _, _, _, _, _, _, h⟩
  · rw [h]; exact errM_ok e
  · rw [h]; exact closeM_ok _ _ _

/-- Whether a time is above an end, below one. -/
def cmpIn (c : Int) (s : Bool) : Bool := decide (c < 0) || (decide (c = 0) && !s)
theorem kept_low {lo n2 d2 : Int} {ls : Bool} (h1 : -288230376151711744 ≤ lo) (h2 : lo ≤ 288230376151711744) : keptB 0 1 n2 d2 (belowB lo ls) = cmpIn (cmpR lo 1 n2 d2) ls := by
  unfold keptB cmpIn cmpR sgn3 belowB
  rw [decide_eq_false (mkB_some (by omega) (by omega)), mkB_num, mkB_str, Bool.false_or, Int.zero_mul, Int.one_mul, Int.mul_one, Int.neg_mul]
  obtain ⟨A, hA⟩ : ∃ A, A = lo * d2 := ⟨_, rfl⟩
  rw [← hA]
  rw [Bool.eq_iff_iff]
  simp only [Bool.or_eq_true, Bool.and_eq_true, decide_eq_true_eq]
  (repeat' split) <;> cases ls <;> simp <;> omega
theorem kept_high {hi n1 d1 : Int} {hs : Bool} (h1 : -288230376151711744 ≤ hi) (h2 : hi ≤ 288230376151711744) : keptB n1 d1 0 1 (mkB hi hs) = cmpIn (cmpR n1 d1 hi 1) hs := by
  unfold keptB cmpIn cmpR sgn3
  rw [decide_eq_false (mkB_some (by omega) (by omega)), mkB_num, mkB_str, Bool.false_or, Int.zero_mul, Int.mul_one, Int.mul_one]
  obtain ⟨A, hA⟩ : ∃ A, A = hi * d1 := ⟨_, rfl⟩
  rw [← hA]
  rw [Bool.eq_iff_iff]
  simp only [Bool.or_eq_true, Bool.and_eq_true, decide_eq_true_eq]
  (repeat' split) <;> cases hs <;> simp <;> omega
theorem kept_open (n1 d1 n2 d2 : Int) : keptB n1 d1 n2 d2 noneB = true := by unfold keptB; simp

/-- Is a time (of a clock) in a span, as the law asks it. -/
def inSpan (lo : Int) (ls : Bool) (hi : Int) (hs op : Bool) (t : Int × Int) : Bool := cmpIn (cmpR lo 1 t.1 t.2) ls && (op || cmpIn (cmpR t.1 t.2 hi 1) hs)

theorem span_kept {n : Int} {N : Nat} {f : Nat → Int} {i lo hi : Int} {ls hs op : Bool} {M : Nat} {T : Nat → Int × Int} {one : Bool} {c : MR} (hc : c = betweenM n N f i lo ls hi hs op) (h1 : keepsD n N f M T = (one, 0)) (he : c.e = 0 ∨ c.e = 6) :
    ∃ a : Nat, i = (a : Int) ∧ a < M + 1 ∧ spanB lo hi hs op = true ∧ okRat (tm T a).1 (tm T a).2 = true ∧ (c.e = 6 → (one && inSpan lo ls hi hs op (tm T a)) = false) ∧ (okD c.n c.N c.f = true → c.e = 0 → keepsD c.n c.N c.f M T = (one && inSpan lo ls hi hs op (tm T a), 0)) := by
  obtain ⟨m, rfl, rfl, hM, hm4, hok, hT, hb⟩ := keepsD_ok h1
  rcases betweenM_cases m (m * m) f i lo ls hi hs op with ⟨e, h, h2⟩ | ⟨m', a, hm', _, hm0, _, rfl, ha, hs', hf, h2⟩
  · rw [hc, h] at he; simp only [errM] at he; omega
  obtain rfl : m = m' := by omega
  have ht : ∀ i, i < m → 0 < (tm T i).2 := fun i hi => tm_pos hT i (by omega)
  have okt : okRat (tm T a).1 (tm T a).2 = true := by
    cases a with
    | zero => exact (by decide : okRat 0 1 = true)
    | succ i => exact allRat_iff.1 hT i (by omega)
  have ob := belowB_may (ls := ls) hs'
  have oa := aboveB_may hs'
  have o1 := okD_more (x := 0 * m + a) hf ob
  have o2 := okD_more (x := a * m + 0) o1 oa
  have k1 := kept_more ht hm0 ha (okD_le hf) (mayB_le ob)
  have k2 := kept_more (f := moreAt f (0 * m + a) (belowB lo ls)) ht ha hm0 (okD_le o1) (mayB_le oa)
  obtain ⟨b1, b2, b3, b4, b5⟩ := spanB_bd hs'
  have e0 : tm T 0 = (0, 1) := rfl
  have hk : keptAll m (moreAt (moreAt f (0 * m + a) (belowB lo ls)) (a * m + 0) (aboveB hi hs op)) T = (one && inSpan lo ls hi hs op (tm T a)) := by
    rw [k2, k1, e0, kept_low b1 b2, hb, Bool.and_assoc]
    congr 1
    unfold inSpan aboveB
    congr 1
    cases op
    · exact kept_high (by have := b5 rfl; omega) b3
    · exact kept_open _ _ _ _
  refine ⟨a, rfl, by omega, hs', okt, ?_, ?_⟩
  · intro h6
    rw [hc, h2] at h6
    rcases kept_close o2 hT hM with ⟨_, h⟩ | ⟨h, _⟩
    · rw [← hk]; exact h
    · rw [h] at h6; cases h6
  · intro ho h0
    rw [hc, h2] at ho h0 ⊢
    rcases kept_close o2 hT hM with ⟨h, _⟩ | ⟨_, h⟩
    · rw [h] at h0; cases h0
    · rw [← hk]; exact h ho
#print axioms span_kept
end Go.Proofs.Ytlcbpckinjkfeaa
