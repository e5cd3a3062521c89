/- Zones as texts: the document's way of reading an interval, in plain words: it is the same. -/
import Derived.Test.YtpmpapenjcemjaaGreatDoorT31c
namespace Go.Proofs.YtpmpapenjcemjaaGreatDoor
set_option linter.unusedSimpArgs false
set_option linter.unusedVariables false
open Go

/-- An interval's ends: their texts, and whether each is in it; whether it is one as it is written. -/
def endsD (s : List UInt8) : List UInt8 × Bool × List UInt8 × Bool × Bool :=
  if s.length < 5 ∨ ¬ (s.headD 0 = 91 ∨ s.headD 0 = 40) ∨ ¬ (s.getLastD 0 = 93 ∨ s.getLastD 0 = 41) then ([], false, [], false, false) else
  match splitB 44 s.tail.dropLast with
  | [a, b] => (a, decide (s.headD 0 = 91), b, decide (s.getLastD 0 = 93), (canonT a || (decide (a = [45, 111, 111]) && decide (s.headD 0 = 40))) && (canonT b || (decide (b = [111, 111]) && decide (s.getLastD 0 = 41))))
  | _ => ([], false, [], false, false)
def synT (l : List UInt8) : Prop := canonT l = true ∨ l = [111, 111] ∨ l = [45, 111, 111]
/-- The bound that an end's text tells, and an error. -/
def bndD (l : List UInt8) (sign : Int) (i : Bool) : Int × Int :=
  if l = [111, 111] ∨ l = [45, 111, 111] then (noneB, 0) else (2 * sign * (if numE l = 0 then valT l else 0) + (if i then 1 else 0), numE l)
theorem canon_oo {l : List UInt8} (h : canonT l = true) : ¬ (l = [111, 111] ∨ l = [45, 111, 111]) := by
  rintro (rfl | rfl) <;> exact absurd h (by decide)
theorem lo_bnd (c : UInt8) (l : List UInt8) (hc : c = 91 ∨ c = 40) :
    ((canonT l || (decide (l = [45, 111, 111]) && decide (c = 40))) = false ∧ (loEnd c l).1 = 170) ∨
    ((canonT l || (decide (l = [45, 111, 111]) && decide (c = 40))) = true ∧ synT l ∧ (loEnd c l).1 = (bndD l (-1) (decide (c = 91))).2 ∧ ((loEnd c l).1 = 0 → (loEnd c l).2 = (bndD l (-1) (decide (c = 91))).1)) := by
  by_cases h1 : c = 40 ∧ l = [45, 111, 111]
  · obtain ⟨rfl, rfl⟩ := h1
    exact .inr ⟨by decide, .inr (.inr rfl), by decide, fun _ => by decide⟩
  · have hs : (decide (l = [45, 111, 111]) && decide (c = 40)) = false := by
      rw [Bool.eq_false_iff]; intro h
      simp only [Bool.and_eq_true, decide_eq_true_eq] at h
      exact h1 ⟨h.2, h.1⟩
    rw [hs, Bool.or_false]
    unfold loEnd
    rw [if_neg h1]
    cases hcn : canonT l
    · rw [if_neg (fun h => by cases h.2)]
      exact .inl ⟨rfl, rfl⟩
    · rw [if_pos ⟨hc.symm, rfl⟩]
      refine .inr ⟨rfl, .inl hcn, ?_, ?_⟩
      · unfold bndD; rw [if_neg (canon_oo hcn)]
      · intro h0
        unfold bndD
        rw [if_neg (canon_oo hcn)]
        simp only at h0 ⊢
        rw [if_pos h0]
        rcases hc with rfl | rfl <;> simp <;> omega
theorem hi_bnd (c : UInt8) (l : List UInt8) (hc : c = 93 ∨ c = 41) :
    ((canonT l || (decide (l = [111, 111]) && decide (c = 41))) = false ∧ (hiEnd c l).1 = 170) ∨
    ((canonT l || (decide (l = [111, 111]) && decide (c = 41))) = true ∧ synT l ∧ (hiEnd c l).1 = (bndD l 1 (decide (c = 93))).2 ∧ ((hiEnd c l).1 = 0 → (hiEnd c l).2 = (bndD l 1 (decide (c = 93))).1)) := by
  by_cases h1 : c = 41 ∧ l = [111, 111]
  · obtain ⟨rfl, rfl⟩ := h1
    exact .inr ⟨by decide, .inr (.inl rfl), by decide, fun _ => by decide⟩
  · have hs : (decide (l = [111, 111]) && decide (c = 41)) = false := by
      rw [Bool.eq_false_iff]; intro h
      simp only [Bool.and_eq_true, decide_eq_true_eq] at h
      exact h1 ⟨h.2, h.1⟩
    rw [hs, Bool.or_false]
    unfold hiEnd
    rw [if_neg h1]
    cases hcn : canonT l
    · rw [if_neg (fun h => by cases h.2)]
      exact .inl ⟨rfl, rfl⟩
    · rw [if_pos ⟨hc.symm, rfl⟩]
      refine .inr ⟨rfl, .inl hcn, ?_, ?_⟩
      · unfold bndD; rw [if_neg (canon_oo hcn)]
      · intro h0
        unfold bndD
        rw [if_neg (canon_oo hcn)]
        simp only at h0 ⊢
        rw [if_pos h0]
        rcases hc with rfl | rfl <;> simp <;> omega
theorem lo_not (c : UInt8) (l : List UInt8) (hc : ¬ (c = 91 ∨ c = 40)) : (loEnd c l).1 = 170 := by
  unfold loEnd
  rw [if_neg (fun h => hc (.inr h.1)), if_neg (fun h => hc h.1.symm)]
theorem hi_not (c : UInt8) (l : List UInt8) (hc : ¬ (c = 93 ∨ c = 41)) : (hiEnd c l).1 = 170 := by
  unfold hiEnd
  rw [if_neg (fun h => hc (.inr h.1)), if_neg (fun h => hc h.1.symm)]
theorem syn_pos {l : List UInt8} (h : synT l) : 1 ≤ l.length ∧ (44 : UInt8) ∉ l := by
  rcases h with h | rfl | rfl
  · refine ⟨?_, fun hm => (isD_ne (canon_mem h _ hm)).2.2.1 rfl⟩
    cases l with
    | nil => exact absurd h (by decide)
    | cons => simp
  · exact ⟨by decide, by decide⟩
  · exact ⟨by decide, by decide⟩
theorem lo_syn {c : UInt8} {l : List UInt8} (h : (loEnd c l).1 ≠ 170) : synT l := by
  by_cases hc : c = 91 ∨ c = 40
  · rcases lo_bnd c l hc with h1 | h1
    · exact absurd h1.2 h
    · exact h1.2.1
  · exact absurd (lo_not c l hc) h
theorem hi_syn {c : UInt8} {l : List UInt8} (h : (hiEnd c l).1 ≠ 170) : synT l := by
  by_cases hc : c = 93 ∨ c = 41
  · rcases hi_bnd c l hc with h1 | h1
    · exact absurd h1.2 h
    · exact h1.2.1
  · exact absurd (hi_not c l hc) h
theorem iv_170 {s a b : List UInt8} (hc : cutC 44 s.tail.dropLast = some (a, b)) (h : (loEnd (s.headD 0) a).1 = 170 ∨ (hiEnd (s.getLastD 0) b).1 = 170) : (ivR s).1 = 170 := by
  unfold ivR
  split
  · rfl
  · rw [hc]
    simp only
    rw [if_pos h]
theorem ends_cases (s : List UInt8) : ((endsD s).2.2.2.2 = false ∧ (ivR s).1 = 170) ∨
    ∃ a b i j lo hi, endsD s = (a, i, b, j, true) ∧ synT a ∧ synT b ∧ a.length ≤ s.length ∧ b.length ≤ s.length ∧
      ivR s = (max (bndD a (-1) i).2 (bndD b 1 j).2, lo, hi) ∧ ((bndD a (-1) i).2 = 0 → lo = (bndD a (-1) i).1) ∧ ((bndD b 1 j).2 = 0 → hi = (bndD b 1 j).1) := by
  cases hcc : cutC 44 s.tail.dropLast with
  | none =>
    refine .inl ⟨?_, ?_⟩
    · unfold endsD
      rw [split_last 44 _ (cutC_none.1 hcc)]
      split <;> rfl
    · unfold ivR
      rw [hcc]
      split <;> rfl
  | some ab =>
    obtain ⟨a, b⟩ := ab
    obtain ⟨hab, hna⟩ := cutC_some hcc
    have hlen : a.length + b.length + 1 ≤ s.length - 2 := by
      have := congrArg List.length hab
      rw [List.length_dropLast, List.length_tail] at this
      simp at this
      omega
    have h2 : ¬ s.length < 2 := by
      intro h
      have : s.tail.dropLast = [] := by
        rw [← List.length_eq_zero_iff, List.length_dropLast, List.length_tail]; omega
      rw [this] at hab
      simp at hab
    by_cases hbc : (44 : UInt8) ∈ b
    · refine .inl ⟨?_, iv_170 hcc (.inr ?_)⟩
      · obtain ⟨p, q, hpq⟩ : ∃ p q, splitB 44 b = p :: q :: [] ∨ ∃ r rs, splitB 44 b = p :: q :: r :: rs := by
          cases hb : splitB 44 b with
          | nil => exact absurd hb (splitB_ne 44 b)
          | cons p ps =>
            cases ps with
            | nil =>
              have h1 := split_join 44 b
              have h2 := split_mem 44 b p (by rw [hb]; exact List.mem_cons_self ..)
              rw [hb, join_single] at h1
              exact absurd hbc (by rw [← h1]; exact h2)
            | cons q qs =>
              cases qs with
              | nil => exact ⟨p, q, .inl rfl⟩
              | cons r rs => exact ⟨p, q, .inr ⟨r, rs, rfl⟩⟩
        unfold endsD
        rw [hab, split_free 44 a hna b]
        rcases hpq with h | ⟨r, rs, h⟩ <;> rw [h] <;> (split <;> rfl)
      · by_cases hx : (hiEnd (s.getLastD 0) b).1 = 170
        · exact hx
        · exact absurd hbc (syn_pos (hi_syn hx)).2
    · have hsp : splitB 44 s.tail.dropLast = [a, b] := by rw [hab, split_free 44 a hna b, split_last 44 b hbc]
      by_cases hc : s.headD 0 = 91 ∨ s.headD 0 = 40
      · by_cases hd : s.getLastD 0 = 93 ∨ s.getLastD 0 = 41
        · rcases lo_bnd _ a hc with ⟨x1, x2⟩ | ⟨x1, x2, x3, x4⟩
          · refine .inl ⟨?_, iv_170 hcc (.inl x2)⟩
            unfold endsD
            rw [hsp]
            simp only [x1, Bool.false_and]
            split <;> rfl
          · rcases hi_bnd _ b hd with ⟨y1, y2⟩ | ⟨y1, y2, y3, y4⟩
            · refine .inl ⟨?_, iv_170 hcc (.inr y2)⟩
              unfold endsD
              rw [hsp]
              simp only [y1, Bool.and_false]
              split <;> rfl
            · have n1 := (syn_pos x2).1
              have n2 := (syn_pos y2).1
              have hl : ¬ (s.length < 5 ∨ ¬ (s.headD 0 = 91 ∨ s.headD 0 = 40) ∨ ¬ (s.getLastD 0 = 93 ∨ s.getLastD 0 = 41)) := by
                rintro (h | h | h)
                · omega
                · exact h hc
                · exact h hd
              refine .inr ⟨a, b, decide (s.headD 0 = 91), decide (s.getLastD 0 = 93), (loEnd (s.headD 0) a).2, (hiEnd (s.getLastD 0) b).2, ?_, x2, y2, by omega, by omega, ?_, ?_, ?_⟩
              · unfold endsD
                rw [if_neg hl, hsp]
                simp only [x1, y1, Bool.and_true]
              · have e1 : (loEnd (s.headD 0) a).1 ≠ 170 := by
                  rw [x3]; unfold bndD numE; (repeat' split) <;> simp
                have e2 : (hiEnd (s.getLastD 0) b).1 ≠ 170 := by
                  rw [y3]; unfold bndD numE; (repeat' split) <;> simp
                unfold ivR
                rw [if_neg h2, hcc]
                simp only
                rw [if_neg (fun h => h.elim e1 e2), x3, y3]
              · intro h; exact x4 (x3.trans h)
              · intro h; exact y4 (y3.trans h)
        · refine .inl ⟨?_, iv_170 hcc (.inr (hi_not _ b hd))⟩
          unfold endsD
          rw [if_pos (.inr (.inr hd))]
      · refine .inl ⟨?_, iv_170 hcc (.inl (lo_not _ a hc))⟩
        unfold endsD
        rw [if_pos (.inr (.inl hc))]
#print axioms ends_cases
end Go.Proofs.YtpmpapenjcemjaaGreatDoor
