/- Signals as texts: what is read has that text; where an error stands. -/
import Derived.Test.YtccbhblklhmcpaaGreatDoorQ3
namespace Go.Proofs.YtccbhblklhmcpaaGreatDoor
set_option linter.unusedSimpArgs false
set_option linter.unusedVariables false
open Go

theorem on_place (N : List (List UInt8)) : ∀ (f : Nat) (r : List UInt8) (p : Nat) (last : Int) (on : Nat), (onL N f r p last on).2.2.1 + (onL N f r p last on).2.1.length = p + r.length
  | 0, r, p, last, on => rfl
  | f + 1, r, p, last, on => by
    have hs := len_split (p := isW) r
    unfold onL
    split
    · rfl
    · split
      · rfl
      · split
        · rfl
        · split
          · rename_i h
            rw [on_place N f]
            have : (r.dropWhile isW).length = (r.dropWhile isW).tail.length + 1 := by
              cases hd : r.dropWhile isW with
              | nil => rw [hd] at h; cases h
              | cons c z => rfl
            omega
          · simp only
            omega
theorem seg_place (N : List (List UInt8)) (r : List UInt8) (p : Nat) : (segL N r p).2.2.1 + (segL N r p).2.1.length = p + r.length := by
  have hs := len_split (p := isD) r
  unfold segL
  split
  · rfl
  · split
    · simp only; omega
    · rename_i h
      have h : (r.dropWhile isD).head? = some 58 := by simpa using h
      obtain ⟨z, hz⟩ : ∃ z, r.dropWhile isD = 58 :: z := by
        cases hd : r.dropWhile isD with
        | nil => rw [hd] at h; cases h
        | cons c z => rw [hd] at h; simp only [List.head?_cons, Option.some.injEq] at h; exact ⟨z, by rw [h]⟩
      rw [hz, List.length_cons] at hs
      split
      · rename_i h2
        rw [hz] at h2 ⊢
        simp only [List.tail_cons] at h2 ⊢
        have : z.length = z.tail.length + 1 := by
          cases z with
          | nil => cases h2
          | cons c y => rfl
        omega
      · have := on_place N (r.length + 1) (r.dropWhile isD).tail (p + (r.takeWhile isD).length + 1) (-1) 0
        simp only
        rw [hz] at this ⊢
        simp only [List.tail_cons] at this ⊢
        omega
theorem all_place (N : List (List UInt8)) : ∀ (f : Nat) (r : List UInt8) (p : Nat) (acc : List Sg), (allL N f r p acc).2.1 ≤ p + r.length ∧ ((allL N f r p acc).2.2 ≠ 0 → (allL N f r p acc).1 = []) ∧ ((allL N f r p acc).2.2 = 0 → (allL N f r p acc).2.1 = 0)
  | 0, r, p, acc => ⟨by show p ≤ _; omega, fun _ => rfl, fun h => by cases h⟩
  | f + 1, r, p, acc => by
    have hs := seg_place N r p
    unfold allL
    split
    · rename_i h
      exact ⟨by show (segL N r p).2.2.1 ≤ _; omega, fun _ => rfl, fun h1 => absurd h1 h⟩
    · split
      · exact ⟨Nat.zero_le _, fun h => absurd rfl h, fun _ => rfl⟩
      · split
        · rename_i h
          have := all_place N f (segL N r p).2.1.tail ((segL N r p).2.2.1 + 1) (acc ++ [(segL N r p).1])
          have hl : (segL N r p).2.1.length = (segL N r p).2.1.tail.length + 1 := by
            cases hd : (segL N r p).2.1 with
            | nil => rw [hd] at h; cases h
            | cons c z => rfl
          exact ⟨by omega, this.2⟩
        · exact ⟨by show (segL N r p).2.2.1 ≤ _; omega, fun _ => rfl, fun h => by cases h⟩
theorem check_cases (n : Nat) (l : List Sg) : checkS n l = 0 ∨ checkS n l = 4 ∨ checkS n l = 8 ∨ checkS n l = 220 := by
  unfold checkS
  split
  · exact .inr (.inl rfl)
  · split
    · exact .inr (.inr (.inl rfl))
    · split
      · exact .inr (.inr (.inr rfl))
      · exact .inl rfl
/-- With an error there are no segments, and it stands in the text; without one, its place is 0. -/
theorem parse_place (N : List (List UInt8)) (S : List UInt8) : (parseS N S).2.1 ≤ S.length ∧ ((parseS N S).2.2 ≠ 0 → (parseS N S).1 = []) ∧ ((parseS N S).2.2 = 0 → (parseS N S).2.1 = 0) := by
  have ha := all_place N (S.length + 1) S 0 []
  unfold parseS
  split
  · exact ⟨Nat.zero_le _, fun _ => rfl, fun h => by cases h⟩
  · split
    · exact ⟨Nat.zero_le _, fun _ => rfl, fun h => by cases h⟩
    · split
      · exact ⟨Nat.zero_le _, fun h => absurd rfl h, fun _ => rfl⟩
      · split
        · rename_i h
          refine ⟨?_, fun _ => rfl, fun h1 => absurd h1 h⟩
          show (allL N (S.length + 1) S 0 []).2.1 ≤ _
          omega
        · split
          · rename_i h
            exact ⟨Nat.zero_le _, fun _ => rfl, fun h1 => absurd h1 h⟩
          · exact ⟨Nat.zero_le _, fun h => absurd rfl h, fun _ => rfl⟩
theorem on_inv (N : List (List UInt8)) : ∀ (f : Nat) (r : List UInt8) (p : Nat) (last : Int) (on m : Nat) (t : List UInt8) (q : Nat), onL N f r p last on = (m, t, q, 0) →
    ∃ ks : List Nat, ks ≠ [] ∧ ks.Pairwise (· < ·) ∧ (∀ k, k ∈ ks → k < N.length) ∧ (∀ k : Nat, k ∈ ks → last < (k : Int)) ∧ r = Lib.join (ks.map fun k => N.getD k []) [44] ++ t ∧ m = on + sum2 ks
  | 0, r, p, last, on, m, t, q, h => by
    unfold onL at h
    simp only [Prod.mk.injEq] at h
    exact absurd h.2.2.2 (by decide)
  | f + 1, r, p, last, on, m, t, q, h => by
    unfold onL at h
    have hr := List.takeWhile_append_dropWhile (p := isW) (l := r)
    split at h
    · simp only [Prod.mk.injEq] at h; exact absurd h.2.2.2 (by decide)
    · split at h
      · simp only [Prod.mk.injEq] at h; exact absurd h.2.2.2 (by decide)
      · rename_i h0
        obtain ⟨i1, i2, i3, i4, i5⟩ := idxI_lt (N := N) (x := r.takeWhile isW) (by omega)
        obtain ⟨k, hk⟩ : ∃ k, k = N.idxOf (r.takeWhile isW) := ⟨_, rfl⟩
        rw [← hk] at i2 i3 i4 i5
        split at h
        · simp only [Prod.mk.injEq] at h; exact absurd h.2.2.2 (by decide)
        · rename_i h1
          split at h
          · rename_i h2
            obtain ⟨z, hz⟩ : ∃ z, r.dropWhile isW = 44 :: z := by
              cases hd : r.dropWhile isW with
              | nil => rw [hd] at h2; cases h2
              | cons c z => rw [hd] at h2; simp only [List.head?_cons, Option.some.injEq] at h2; exact ⟨z, by rw [h2]⟩
            obtain ⟨ks, a1, a2, a3, a4, a5, a6⟩ := on_inv N f _ _ _ _ m t q h
            rw [i3] at a4
            rw [i2] at a6
            rw [hz, List.tail_cons] at a5
            refine ⟨k :: ks, by simp, List.pairwise_cons.2 ⟨fun j hj => by have := a4 j hj; omega, a2⟩, ?_, ?_, ?_, ?_⟩
            · intro j hj
              rcases List.mem_cons.1 hj with rfl | hj
              · exact i4
              · exact a3 j hj
            · intro j hj
              rcases List.mem_cons.1 hj with rfl | hj
              · omega
              · have := a4 j hj; omega
            · cases ks with
              | nil => exact absurd rfl a1
              | cons k2 ks =>
                rw [List.map_cons, List.map_cons, join_two, i5, ← List.map_cons (f := fun k => N.getD k [])]
                have e1 : r = r.takeWhile isW ++ 44 :: z := by rw [← hz]; exact hr.symm
                exact e1.trans (by rw [a5]; simp)
            · rw [a6, sum2_cons]; omega
          · simp only [Prod.mk.injEq] at h
            obtain ⟨e1, e2, _, _⟩ := h
            rw [i2] at e1
            refine ⟨[k], by simp, List.pairwise_singleton .., ?_, ?_, ?_, ?_⟩
            · intro j hj; rw [List.mem_singleton.1 hj]; exact i4
            · intro j hj; rw [List.mem_singleton.1 hj]; omega
            · rw [List.map_cons, List.map_nil, Lib.join_one, i5, ← e2, hr]
            · rw [← e1]; rfl
theorem seg_inv {N : List (List UInt8)} {r : List UInt8} {p : Nat} {s : Sg} {t : List UInt8} {q : Nat} (h : segL N r p = (s, t, q, 0)) : r = segT N s ++ t ∧ 1 ≤ s.1 ∧ s.1 < 288230376151711744 ∧ s.2 < 2 ^ N.length := by
  unfold segL at h
  have hr := List.takeWhile_append_dropWhile (p := isD) (l := r)
  have hall := all_take (p := isD) (r := r)
  obtain ⟨D, hD⟩ : ∃ D, D = r.takeWhile isD := ⟨_, rfl⟩
  rw [← hD] at h hr hall
  split at h
  · simp only [Prod.mk.injEq] at h; exact absurd h.2.2.2 (by decide)
  · rename_i h0
    obtain ⟨n1, n2, n3⟩ : D ≠ [] ∧ D.head? ≠ some 48 ∧ ¬ 288230376151711744 ≤ valD 0 D := ⟨fun e => h0 (.inl e), fun e => h0 (.inr (.inl e)), fun e => h0 (.inr (.inr e))⟩
    have hv := val_pos hall n1 n2
    have hc : canonD D = true := by
      unfold canonD
      have : D.isEmpty = false := by cases D with
        | nil => exact absurd rfl n1
        | cons x z => rfl
      rw [hall]; simp [this, n2]
    have hd := dec_val _ D rfl hc
    have hi : Lib.itoa (valD 0 D : Int) = D := by unfold Lib.itoa; rw [if_neg (by omega), Int.toNat_natCast, hd]
    split at h
    · simp only [Prod.mk.injEq] at h; exact absurd h.2.2.2 (by decide)
    · rename_i h1
      have h1 : (r.dropWhile isD).head? = some 58 := by simpa using h1
      obtain ⟨z, hz⟩ : ∃ z, r.dropWhile isD = 58 :: z := by
        cases hd : r.dropWhile isD with
        | nil => rw [hd] at h1; cases h1
        | cons c z => rw [hd] at h1; simp only [List.head?_cons, Option.some.injEq] at h1; exact ⟨z, by rw [h1]⟩
      rw [hz] at h hr
      by_cases h2 : z.head? = some 45
      · rw [if_pos (by exact h2)] at h
        simp only [Prod.mk.injEq, List.tail_cons] at h
        obtain ⟨e1, e2, _, _⟩ := h
        subst e1
        have hp : (0 : Nat) < 2 ^ N.length := Nat.two_pow_pos _
        refine ⟨?_, by show 1 ≤ (valD 0 D : Int); omega, by show (valD 0 D : Int) < _; omega, hp⟩
        unfold segT
        rw [if_pos ((onNames_nil hp).2 rfl), hi]
        rw [← hr, ← e2]
        cases z with
        | nil => cases h2
        | cons c y => simp only [List.head?_cons, Option.some.injEq] at h2; subst h2; simp
      · rw [if_neg (by exact h2)] at h
        simp only [Prod.mk.injEq, List.tail_cons] at h
        obtain ⟨e1, e2, e3, e4⟩ := h
        obtain ⟨ks, a1, a2, a3, a4, a5, a6⟩ := on_inv N (r.length + 1) z (p + D.length + 1) (-1) 0 s.2 t q (Prod.ext (by rw [← e1]) (Prod.ext e2 (Prod.ext e3 e4)))
        obtain ⟨b1, b2⟩ := sum2_bits N.length ks a2 a3
        rw [Nat.zero_add] at a6
        refine ⟨?_, by rw [← e1]; show 1 ≤ (valD 0 D : Int); omega, by rw [← e1]; show (valD 0 D : Int) < _; omega, by rw [a6]; exact b1⟩
        have hn : onNames N s.2 = ks.map fun k => N.getD k [] := by unfold onNames; rw [a6, b2]
        unfold segT
        rw [hn, if_neg (by simpa using a1), ← e1]
        simp only
        rw [hi, ← hr, a5]
        simp
theorem all_inv (N : List (List UInt8)) : ∀ (f : Nat) (r : List UInt8) (p : Nat) (acc L : List Sg) (q : Nat), allL N f r p acc = (L, q, 0) → ∃ M, M ≠ [] ∧ L = acc ++ M ∧ r = Lib.join (M.map (segT N)) [59]
  | 0, r, p, acc, L, q, h => by
    unfold allL at h
    simp only [Prod.mk.injEq] at h
    exact absurd h.2.2 (by decide)
  | f + 1, r, p, acc, L, q, h => by
    unfold allL at h
    split at h
    · rename_i h0
      simp only [Prod.mk.injEq] at h
      exact absurd h.2.2 h0
    · rename_i h0
      have h0 : (segL N r p).2.2.2 = 0 := by simpa using h0
      have hs := seg_inv (N := N) (r := r) (p := p) (s := (segL N r p).1) (t := (segL N r p).2.1) (q := (segL N r p).2.2.1) (Prod.ext rfl (Prod.ext rfl (Prod.ext rfl h0)))
      split at h
      · rename_i h1
        simp only [Prod.mk.injEq] at h
        refine ⟨[(segL N r p).1], by simp, h.1.symm, ?_⟩
        rw [List.map_cons, List.map_nil, Lib.join_one]
        rw [h1, List.append_nil] at hs
        exact hs.1
      · split at h
        · rename_i h2
          obtain ⟨M, m1, m2, m3⟩ := all_inv N f _ _ _ L q h
          refine ⟨(segL N r p).1 :: M, by simp, by rw [m2]; simp, ?_⟩
          cases M with
          | nil => exact absurd rfl m1
          | cons s2 M =>
            rw [List.map_cons, List.map_cons, join_two]
            rw [List.map_cons] at m3
            obtain ⟨z, hz⟩ : ∃ z, (segL N r p).2.1 = 59 :: z := by
              cases hd : (segL N r p).2.1 with
              | nil => rw [hd] at h2; cases h2
              | cons c z => rw [hd] at h2; simp only [List.head?_cons, Option.some.injEq] at h2; exact ⟨z, by rw [h2]⟩
            rw [hz, List.tail_cons] at m3
            rw [hz] at hs
            rw [← m3]
            exact hs.1
        · simp only [Prod.mk.injEq] at h
          exact absurd h.2.2 (by decide)
/-- What is read has that text. -/
theorem print_parse {N : List (List UInt8)} {S : List UInt8} (h : (parseS N S).2.2 = 0) : printS N (parseS N S).1 = (S, 0) ∧ checkS N.length (parseS N S).1 = 0 := by
  unfold parseS at h ⊢
  by_cases h1 : mayNames N = false
  · rw [if_pos h1] at h; cases h
  · rw [if_neg h1] at h ⊢
    by_cases h2 : 4096 < S.length
    · rw [if_pos h2] at h; cases h
    · rw [if_neg h2] at h ⊢
      by_cases h3 : S = []
      · rw [if_pos h3, h3]
        refine ⟨?_, rfl⟩
        unfold printS
        rw [if_neg h1, if_neg (by show ¬ (0 ≠ 0); simp)]
        rfl
      · rw [if_neg h3] at h ⊢
        by_cases h4 : (allL N (S.length + 1) S 0 []).2.2 ≠ 0
        · rw [if_pos h4] at h; exact absurd h h4
        · rw [if_neg h4] at h ⊢
          by_cases h5 : checkS N.length (allL N (S.length + 1) S 0 []).1 ≠ 0
          · rw [if_pos h5] at h; exact absurd h h5
          · rw [if_neg h5] at h ⊢
            have h4 : (allL N (S.length + 1) S 0 []).2.2 = 0 := by simpa using h4
            have h5 : checkS N.length (allL N (S.length + 1) S 0 []).1 = 0 := by simpa using h5
            obtain ⟨M, m1, m2, m3⟩ := all_inv N (S.length + 1) S 0 [] (allL N (S.length + 1) S 0 []).1 (allL N (S.length + 1) S 0 []).2.1 (Prod.ext rfl (Prod.ext rfl h4))
            rw [List.nil_append] at m2
            refine ⟨?_, h5⟩
            unfold printS
            rw [if_neg h1, if_neg (by simpa using h5)]
            simp only
            rw [m2, ← m3]
#print axioms print_parse
end Go.Proofs.YtccbhblklhmcpaaGreatDoor
