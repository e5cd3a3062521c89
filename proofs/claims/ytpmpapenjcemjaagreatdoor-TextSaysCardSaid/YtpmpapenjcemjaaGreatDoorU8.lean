/- Zones' texts: contract of text.interval, its ways under one statement; what it reads is what the plain words read. No condition but on size, and that strconv.ErrRange lies. -/
import Derived.Test.YtpmpapenjcemjaaGreatDoorU7
namespace Go.Proofs.YtpmpapenjcemjaaGreatDoor
set_option linter.unusedSimpArgs false
set_option linter.unusedVariables false
open Go Go.RowKit Go.Shelf

def zEnd : EndX := (0, false, false)
def ivE (s : List UInt8) : EndX × EndX × Int :=
  if s.length < 2 then (zEnd, zEnd, 170) else
  match cutC 44 s.tail.dropLast with
  | none => (zEnd, zEnd, 170)
  | some (a, b) => ((endR 40 91 [45, 111, 111] (s.headD 0) a).1, (endR 41 93 [111, 111] (s.getLastD 0) b).1,
    if (endR 40 91 [45, 111, 111] (s.headD 0) a).2 = 170 ∨ (endR 41 93 [111, 111] (s.getLastD 0) b).2 = 170 then 170 else max (endR 40 91 [45, 111, 111] (s.headD 0) a).2 (endR 41 93 [111, 111] (s.getLastD 0) b).2)
def ivV (r : EndX × EndX × Int) : Value := .tuple #[xEndV r.1, xEndV r.2.1, .int .i64 r.2.2]
theorem tinterval_any (l : List UInt8) (hl : l.length ≤ 140737488355328) (w : World) (hv : ErrR w) : Calls Tryz.prog 68 #[.string (bs l)] w (Gives w (ivV (ivE l))) := by
  unfold ivE
  by_cases h2 : l.length < 2
  · rw [if_pos h2]
    exact interval_short (bs l) (by rw [bs_size]; exact h2) w
  · rw [if_neg h2]
    have hM : (bs l).extract 1 (l.length - 1) = bs l.tail.dropLast := by
      rw [Lib.extract_eq, bs_list]
      congr 2
      rw [List.dropLast_eq_take, List.length_tail, List.drop_one]
    have hml : l.tail.dropLast.length ≤ 140737488355328 := by rw [List.length_dropLast, List.length_tail]; omega
    have CT := cut_any l.tail.dropLast hml
    unfold cutV at CT
    cases hcc : cutC 44 l.tail.dropLast with
    | none =>
      rw [hcc] at CT
      exact interval_uncut (bs l) l.length (l.length - 1) (bs_size l) (by omega) (by omega) hl _ _ _ hM CT w
    | some ab =>
      obtain ⟨a, b⟩ := ab
      rw [hcc] at CT
      obtain ⟨hab, _⟩ := cutC_some hcc
      have hal : a.length ≤ 140737488355328 ∧ b.length ≤ 140737488355328 := by
        rw [hab] at hml
        simp at hml
        omega
      have g0 : ∀ h, (bs l)[0]'h = l.headD 0 := fun h => by
        cases l with
        | nil => simp at h2
        | cons x r => rfl
      have g1 : ∀ h, (bs l)[l.length - 1]'h = l.getLastD 0 := fun h => by
        have e1 := Lib.data_getElem? (bs l) (l.length - 1) h
        rw [bs_list] at e1
        have e2 : l[l.length - 1]? = l.getLast? := List.getLast?_eq_getElem?.symm
        rw [e2] at e1
        rw [List.getLastD_eq_getLast?, e1]; rfl
      exact interval_core (bs l) l.length (l.length - 1) (bs_size l) (by omega) (by omega) hl _ _ _ a b _ _ _ _ _ _ _ _ w g0 g1 hM CT
        (fun w' hb => read_any 40 91 (by decide) [45, 111, 111] (l.headD 0) a hal.1 w' (hv.below hb)) (fun w' hb => read_any 41 93 (by decide) [111, 111] (l.getLastD 0) b hal.2 w' (hv.below hb))
def negX (x : EndX) : EndX := (-x.1, x.2)
def fitsX (x : EndX) : Prop := -2305843009213693952 ≤ x.1 ∧ x.1 ≤ 2305843009213693952
theorem numE_cases (l : List UInt8) : numE l = 0 ∨ numE l = 151 := by unfold numE; split; exact .inl rfl; exact .inr rfl
theorem endR_fits (o p : UInt8) (no : List UInt8) (c : UInt8) (l : List UInt8) : fitsX (endR o p no c l).1 := by
  unfold endR fitsX
  split
  · exact ⟨by decide, by decide⟩
  · split
    · split
      · rename_i h; exact numE_zero h
      · exact ⟨by decide, by decide⟩
    · exact ⟨by decide, by decide⟩
theorem endR_lo (c : UInt8) (l : List UInt8) : (endR 40 91 [45, 111, 111] c l).2 = (loEnd c l).1 ∧ ((loEnd c l).1 = 0 → bndX (negX (endR 40 91 [45, 111, 111] c l).1) = (loEnd c l).2) := by
  unfold endR loEnd
  split
  · exact ⟨rfl, fun _ => rfl⟩
  · split
    · rcases numE_cases l with h | h
      · rw [if_pos h]
        refine ⟨h.symm, fun _ => ?_⟩
        unfold bndX negX
        by_cases hc : c = 91 <;> simp [hc] <;> omega
      · rw [if_neg (by rw [h]; decide)]
        exact ⟨h.symm, fun h0 => by simp only at h0; omega⟩
    · exact ⟨rfl, fun h => absurd h (by decide)⟩
theorem endR_hi (c : UInt8) (l : List UInt8) : (endR 41 93 [111, 111] c l).2 = (hiEnd c l).1 ∧ ((hiEnd c l).1 = 0 → bndX (endR 41 93 [111, 111] c l).1 = (hiEnd c l).2) := by
  unfold endR hiEnd
  split
  · exact ⟨rfl, fun _ => rfl⟩
  · split
    · rcases numE_cases l with h | h
      · rw [if_pos h]
        refine ⟨h.symm, fun _ => ?_⟩
        unfold bndX
        by_cases hc : c = 93 <;> simp [hc]
      · rw [if_neg (by rw [h]; decide)]
        exact ⟨h.symm, fun h0 => by simp only at h0; omega⟩
    · exact ⟨rfl, fun h => absurd h (by decide)⟩
theorem endR_err (o p : UInt8) (no : List UInt8) (c : UInt8) (l : List UInt8) : (endR o p no c l).2 = 0 ∨ (endR o p no c l).2 = 151 ∨ (endR o p no c l).2 = 170 := by
  unfold endR
  split
  · exact .inl rfl
  · split
    · split
      · exact .inl rfl
      · exact .inr (.inl rfl)
    · exact .inr (.inr rfl)
theorem ivE_ivR (s : List UInt8) : (ivE s).2.2 = (ivR s).1 ∧ ((ivR s).1 = 0 → bndX (negX (ivE s).1) = (ivR s).2.1 ∧ bndX (ivE s).2.1 = (ivR s).2.2) ∧ fitsX (ivE s).1 ∧ fitsX (ivE s).2.1 ∧ ((ivE s).2.2 = 0 ∨ (ivE s).2.2 = 151 ∨ (ivE s).2.2 = 170) := by
  have zf : fitsX zEnd := ⟨by decide, by decide⟩
  unfold ivE ivR
  by_cases h : s.length < 2
  · rw [if_pos h, if_pos h]
    exact ⟨rfl, fun h => absurd h (by decide), zf, zf, .inr (.inr rfl)⟩
  · rw [if_neg h, if_neg h]
    cases cutC 44 s.tail.dropLast with
    | none => exact ⟨rfl, fun h => by simp at h, zf, zf, .inr (.inr rfl)⟩
    | some ab =>
      obtain ⟨a, b⟩ := ab
      simp only
      have L := endR_lo (s.headD 0) a
      have H := endR_hi (s.getLastD 0) b
      have e1 := endR_err 40 91 [45, 111, 111] (s.headD 0) a
      have e2 := endR_err 41 93 [111, 111] (s.getLastD 0) b
      have f1 := endR_fits 40 91 [45, 111, 111] (s.headD 0) a
      have f2 := endR_fits 41 93 [111, 111] (s.getLastD 0) b
      rw [← L.1, ← H.1] at *
      by_cases hs : (endR 40 91 [45, 111, 111] (s.headD 0) a).2 = 170 ∨ (endR 41 93 [111, 111] (s.getLastD 0) b).2 = 170
      · rw [if_pos hs, if_pos hs]
        exact ⟨rfl, fun h => absurd h (by decide), f1, f2, .inr (.inr rfl)⟩
      · rw [if_neg hs, if_neg hs]
        refine ⟨rfl, fun h0 => ⟨L.2 ?_, H.2 ?_⟩, f1, f2, ?_⟩
        · simp only at h0; omega
        · simp only at h0; omega
        · omega
#print axioms ivE_ivR
end Go.Proofs.YtpmpapenjcemjaaGreatDoor
