/- Plain laws of closed matrices of the code. No condition. -/
import Derived.Test.YtlcbpckinjkfeaaD13
namespace Go.Proofs.Ytlcbpckinjkfeaa
set_option linter.unusedSimpArgs false
set_option linter.unusedVariables false
open Go Go.RowKit

theorem rounds_bd3 {n : Nat} {m : Nat → Nat → EB} {C : Int} (hn0 : 1 ≤ n) (hC : 0 ≤ C) (h : ∀ i, i < n → m i i = some 1) (hb : ∀ i j, i < n → j < n → ebd C (m i j)) {a : Nat → Nat → EB} (e : roundsR n m n = some a) : ∀ i j, i < n → j < n → ebd (((n : Int) - 1) * C) (a i j) := by
  intro i j hi hj
  have hkC : 0 ≤ ((n : Int) - 1) * C := Int.mul_nonneg (by omega) hC
  rcases rounds_simple h n a (Nat.le_refl _) e i j hi hj with h1 | ⟨_, h1⟩ | ⟨hij, l, h2, h3, h4⟩
  · rw [h1]; trivial
  · rw [h1]; simp [ebd]; omega
  · rw [h4]
    refine ebd_mono (wsum_bd hb l i j hi hj (fun v hv => (h3 v hv).1)) ?_
    have h5 : (i :: j :: l).Nodup := by
      refine List.nodup_cons.2 ⟨fun hm => ?_, List.nodup_cons.2 ⟨fun hm => (h3 j hm).2.2 rfl, h2⟩⟩
      rcases List.mem_cons.1 hm with hm | hm
      · exact hij hm
      · exact (h3 i hm).2.1 rfl
    have := nodup_len n (i :: j :: l) h5 (fun v hv => by
      rcases List.mem_cons.1 hv with hv | hv
      · omega
      · rcases List.mem_cons.1 hv with hv | hv
        · omega
        · exact (h3 v hv).1)
    simp only [List.length_cons] at this
    exact Int.mul_le_mul_of_nonneg_right (by omega) hC

theorem mayB_bd {x : Int} (h : mayB x = true) : bd 288230376151711744 x := by
  simp [mayB] at h
  rcases h with h | h
  · exact .inl h
  · exact .inr ⟨by omega, by omega⟩
theorem bd_mayB {x : Int} (h : bd 288230376151711744 x) : mayB x = true := by
  simp [mayB]
  rcases h with h | h
  · exact .inl h
  · exact .inr ⟨by omega, by omega⟩
theorem allMay_iff {N : Nat} {f : Nat → Int} : allMay N f = true ↔ ∀ x, x < N → mayB (f x) = true := by
  unfold allMay; rw [List.all_eq_true]
  constructor
  · intro h x hx; exact h x (by simpa using hx)
  · intro h x hx; exact h x (by simpa using hx)
/-- What may be. -/
theorem okD_bd {n : Nat} {f : Nat → Int} (h : okD n (n * n) f = true) : 1 ≤ n ∧ n ≤ 4 ∧ ∀ i j, i < n → j < n → bd 288230376151711744 (f (i * n + j)) := by
  simp only [okD, Bool.and_eq_true, decide_eq_true_eq] at h
  obtain ⟨h1, h2, _, h4⟩ := h
  exact ⟨by omega, by omega, fun i j hi hj => mayB_bd (allMay_iff.1 h4 _ (place_lt hi hj))⟩
theorem okD_form {n : Int} {N : Nat} {f : Nat → Int} (h : okD n N f = true) : ∃ m : Nat, n = (m : Int) ∧ N = m * m ∧ 1 ≤ m ∧ m ≤ 4 := by
  simp only [okD, Bool.and_eq_true, decide_eq_true_eq] at h
  obtain ⟨h1, h2, h3, _⟩ := h
  obtain ⟨m, rfl⟩ : ∃ m : Nat, n = (m : Int) := ⟨n.toNat, by omega⟩
  exact ⟨m, rfl, by exact_mod_cast h3, by omega, by omega⟩

/-- All that is known of a closed one. -/
structure ClosedI (n : Nat) (f c : Nat → Int) : Prop where
  ex : ∃ e, closeE n (mE n f) = some e ∧ ∀ i j, i < n → j < n → eb (c (i * n + j)) = e i j
  bound : ∀ i j, i < n → j < n → bd 864691128455135232 (c (i * n + j))

theorem close_facts {n : Nat} {f c : Nat → Int} (hn0 : 1 ≤ n) (hn : n ≤ 4) (hb : ∀ i j, i < n → j < n → bd 288230376151711744 (f (i * n + j))) (h : closeI n f = some c) : ClosedI n f c := by
  have hi := closeI_is hn hb
  rw [h] at hi
  cases he : closeE n (mE n f) with
  | none => rw [he] at hi; exact hi.elim
  | some e =>
    rw [he] at hi
    refine ⟨⟨e, he, hi⟩, fun i j hi' hj => bd_iff.2 ?_⟩
    rw [hi i j hi' hj]
    have he2 := he
    unfold closeE at he2
    split at he2
    · have := rounds_bd3 (C := 288230376151711744) hn0 (by omega) (fun i _ => diag1_diag (mE n f) i) (fun i j hi hj => by
        unfold diag1
        by_cases e : i = j
        · rw [if_pos e]; simp [ebd]
        · rw [if_neg e]; exact bd_iff.1 (hb i j hi hj)) he2 i j hi' hj
      exact ebd_mono this (by omega)
    · cases he2
theorem close_none {n : Nat} {f : Nat → Int} (hn : n ≤ 4) (hb : ∀ i j, i < n → j < n → bd 288230376151711744 (f (i * n + j))) (h : closeI n f = none) : closeE n (mE n f) = none := by
  have hi := closeI_is hn hb
  rw [h] at hi
  cases he : closeE n (mE n f) with
  | none => rfl
  | some e => rw [he] at hi; exact hi.elim

theorem ClosedI.closed {n : Nat} {f c : Nat → Int} (h : ClosedI n f c) : Closed n (mE n c) ∧ Under n (mE n c) (mE n f) := by
  obtain ⟨e, he, hc⟩ := h.ex
  obtain ⟨⟨h1, h2⟩, h3⟩ := closeE_closed he
  have hm : ∀ i j, i < n → j < n → mE n c i j = e i j := hc
  refine ⟨⟨fun i hi => by rw [hm i i hi hi]; exact h1 i hi, fun i j k hi hj hk => by rw [hm i j hi hj, hm i k hi hk, hm k j hk hj]; exact h2 i j k hi hj hk⟩, fun i j hi hj => by rw [hm i j hi hj]; exact h3 i j hi hj⟩
theorem ClosedI.diag {n : Nat} {f c : Nat → Int} (h : ClosedI n f c) {i : Nat} (hi : i < n) : c (i * n + i) = 1 := by
  have := h.closed.1.1 i hi
  exact eb_inj (by rw [eb_one]; exact this)
/-- No bound is greater than the sum by a third clock. -/
theorem ClosedI.tri {n : Nat} {f c : Nat → Int} (h : ClosedI n f c) {i j k : Nat} (hi : i < n) (hj : j < n) (hk : k < n) : (addR (c (i * n + k)) (c (k * n + j))).2 = 0 ∧ c (i * n + j) ≤ (addR (c (i * n + k)) (c (k * n + j))).1 := by
  obtain ⟨x1, x2, x3⟩ := addR_exact (h.bound i k hi hk) (h.bound k j hk hj) (by omega) (by omega) (by omega)
  refine ⟨x2, ?_⟩
  have hl := lt_iff_ele x3 (h.bound i j hi hj) (by omega) (by omega)
  have ht := h.closed.1.2 i j k hi hj hk
  rw [x1] at hl
  have := mt hl.1 (fun hn => hn ht)
  omega
theorem mE_under {n : Nat} {K L : Int} {f g : Nat → Int} (hK : K ≤ 2305843009213693952) (hL : L ≤ 2305843009213693952) (hf : ∀ i j, i < n → j < n → bd K (f (i * n + j))) (hg : ∀ i j, i < n → j < n → bd L (g (i * n + j))) : Under n (mE n f) (mE n g) ↔ ∀ i j, i < n → j < n → f (i * n + j) ≤ g (i * n + j) := by
  constructor
  · intro h i j hi hj
    have := mt (lt_iff_ele (hg i j hi hj) (hf i j hi hj) hL hK).1 (fun hn => hn (h i j hi hj))
    omega
  · intro h i j hi hj
    exact Classical.byContradiction fun hn => by
      have := (lt_iff_ele (hg i j hi hj) (hf i j hi hj) hL hK).2 hn
      have := h i j hi hj
      omega
theorem at_place {n x : Nat} (hx : x < n * n) : ∃ i j, i < n ∧ j < n ∧ x = i * n + j := by
  have hn : 0 < n := by
    rcases Nat.eq_zero_or_pos n with h | h
    · subst h; omega
    · exact h
  refine ⟨x / n, x % n, Nat.div_lt_of_lt_mul hx, Nat.mod_lt _ hn, ?_⟩
  have := Nat.div_add_mod x n
  rw [Nat.mul_comm] at this
  omega
/-- A closed one that may be handed in is closed to itself. -/
theorem ClosedI.again {n : Nat} {f c : Nat → Int} (h : ClosedI n f c) (hn0 : 1 ≤ n) (hn : n ≤ 4) (hok : okD n (n * n) c = true) : ∃ c2, closeR n (n * n) c = (some c2, 0) ∧ ∀ x, x < n * n → c2 x = c x := by
  obtain ⟨_, _, hb⟩ := okD_bd hok
  obtain ⟨e, he, hee⟩ := closeE_self h.closed.1
  have hi := closeI_is hn hb
  rw [he] at hi
  cases hc : closeI n c with
  | none => rw [hc] at hi; exact hi.elim
  | some c2 =>
    rw [hc] at hi
    refine ⟨c2, ?_, fun x hx => ?_⟩
    · unfold closeR; rw [hok, if_pos rfl, show ((n : Int)).toNat = n from rfl, hc]
    · obtain ⟨i, j, hi', hj, rfl⟩ := at_place hx
      exact eb_inj (by rw [hi i j hi' hj, hee i j hi' hj]; rfl)
end Go.Proofs.Ytlcbpckinjkfeaa
