/- Signals as texts: the text of a signal is read back, and what is read has that text. -/
import Derived.Test.YtccbhblklhmcpaaGreatDoorQ2
namespace Go.Proofs.YtccbhblklhmcpaaGreatDoor
set_option linter.unusedSimpArgs false
set_option linter.unusedVariables false
open Go

def sum2 (ks : List Nat) : Nat := (ks.map fun k => 2 ^ k).sum
theorem sum2_cons (k : Nat) (ks : List Nat) : sum2 (k :: ks) = 2 ^ k + sum2 ks := rfl
theorem sum2_app (a b : List Nat) : sum2 (a ++ b) = sum2 a + sum2 b := by unfold sum2; rw [List.map_append, List.sum_append]
theorem bits_succ (n m : Nat) : bitsF (n + 1) m = bitsF n m ++ if m.testBit n then [n] else [] := by
  unfold bitsF
  rw [List.range_succ, List.filter_append]
  congr 1
  by_cases h : m.testBit n = true
  · rw [if_pos h]; simp [h]
  · rw [if_neg h]; simp [h]
theorem bits_congr {n a b : Nat} (h : ∀ k, k < n → a.testBit k = b.testBit k) : bitsF n a = bitsF n b := by
  unfold bitsF
  exact List.filter_congr fun k hk => h k (List.mem_range.1 hk)
/-- Places, one behind the other, below a number: their sum says which. -/
theorem sum2_bits : ∀ (n : Nat) (ks : List Nat), ks.Pairwise (· < ·) → (∀ k, k ∈ ks → k < n) → sum2 ks < 2 ^ n ∧ bitsF n (sum2 ks) = ks
  | 0, ks, _, h => by
    cases ks with
    | nil => exact ⟨by decide, rfl⟩
    | cons k r => exact absurd (h k (List.mem_cons_self ..)) (by omega)
  | n + 1, ks, hp, h => by
    by_cases hn : n ∈ ks
    · obtain ⟨a, b, rfl⟩ := List.append_of_mem hn
      rw [List.pairwise_append] at hp
      obtain ⟨pa, pb, pab⟩ := hp
      have hb : b = [] := by
        cases b with
        | nil => rfl
        | cons x r =>
          have h1 := h x (by simp)
          have h2 := (List.pairwise_cons.1 pb).1 x (List.mem_cons_self ..)
          omega
      subst hb
      obtain ⟨i1, i2⟩ := sum2_bits n a pa fun k hk => pab k hk n (List.mem_cons_self ..)
      have e : sum2 (a ++ [n]) = 2 ^ n + sum2 a := by rw [sum2_app]; show sum2 a + (2 ^ n + 0) = _; omega
      refine ⟨by rw [e, Nat.pow_succ]; omega, ?_⟩
      rw [e, bits_succ]
      have t1 : (2 ^ n + sum2 a).testBit n = true := by rw [Nat.testBit_two_pow_add_eq, Nat.testBit_lt_two_pow i1]; rfl
      rw [if_pos t1]
      congr 1
      rw [show bitsF n (2 ^ n + sum2 a) = bitsF n (sum2 a) from bits_congr fun k hk => Nat.testBit_two_pow_add_gt hk _, i2]
    · obtain ⟨i1, i2⟩ := sum2_bits n ks hp fun k hk => by
        have := h k hk
        have : k ≠ n := fun e => hn (e ▸ hk)
        omega
      refine ⟨by rw [Nat.pow_succ]; omega, ?_⟩
      rw [bits_succ, Nat.testBit_lt_two_pow i1, i2]
      simp
theorem bits_pw (n m : Nat) : (bitsF n m).Pairwise (· < ·) ∧ ∀ k, k ∈ bitsF n m → k < n := by
  refine ⟨List.Pairwise.filter _ List.pairwise_lt_range, fun k hk => ?_⟩
  exact List.mem_range.1 (List.mem_filter.1 hk).1
theorem bits_sum : ∀ (n m : Nat), m < 2 ^ n → sum2 (bitsF n m) = m
  | 0, m, h => by
    have : m = 0 := by omega
    subst this; rfl
  | n + 1, m, h => by
    rw [bits_succ, sum2_app]
    by_cases hn : m.testBit n = true
    · have hge : 2 ^ n ≤ m := Nat.ge_two_pow_of_testBit hn
      obtain ⟨x, rfl⟩ : ∃ x, m = 2 ^ n + x := ⟨m - 2 ^ n, by omega⟩
      have hx : x < 2 ^ n := by rw [Nat.pow_succ] at h; omega
      rw [if_pos hn, show bitsF n (2 ^ n + x) = bitsF n x from bits_congr fun k hk => Nat.testBit_two_pow_add_gt hk _, bits_sum n x hx]
      show x + (2 ^ n + 0) = _
      omega
    · rw [if_neg hn]
      have hx : m < 2 ^ n := by
        refine Nat.lt_pow_two_of_testBit _ fun i hi => ?_
        by_cases e : i = n
        · rw [e]; simpa using hn
        · exact Nat.testBit_lt_two_pow (Nat.lt_of_lt_of_le h (Nat.pow_le_pow_right (by decide) (by omega)))
      rw [bits_sum n m hx]
      rfl
theorem mayName_ne {s : List UInt8} (h : mayName s = true) : ∃ c r, s = c :: r ∧ isL c = true ∧ s.all isW = true := by
  unfold mayName at h
  simp only [Bool.and_eq_true] at h
  obtain ⟨⟨⟨⟨_, h1⟩, _⟩, _⟩, _⟩ := h
  cases s with
  | nil => cases h1
  | cons c r =>
    simp only [Bool.and_eq_true] at h1
    refine ⟨c, r, rfl, h1.1, ?_⟩
    rw [List.all_cons, h1.2, Bool.and_true]
    unfold isW; rw [h1.1]; rfl
theorem mayNames_at {N : List (List UInt8)} (h : mayNames N = true) : N.length ≤ 8 ∧ N.Nodup ∧ ∀ k, k < N.length → mayName (N.getD k []) = true := by
  unfold mayNames at h
  simp only [Bool.and_eq_true, decide_eq_true_eq, List.all_eq_true] at h
  refine ⟨h.1.1, h.2, fun k hk => h.1.2 _ ?_⟩
  rw [List.getD_eq_getElem?_getD, List.getElem?_eq_getElem hk]; exact List.getElem_mem hk
theorem join_two (x y : List UInt8) (r : List (List UInt8)) (sep : List UInt8) : Lib.join (x :: y :: r) sep = x ++ (sep ++ Lib.join (y :: r) sep) := by
  unfold Lib.join List.intercalate
  simp [List.intersperse]
theorem join_ge (sep : List UInt8) : ∀ (l : List (List UInt8)), (∀ x, x ∈ l → x ≠ []) → l.length ≤ (Lib.join l sep).length
  | [], _ => Nat.zero_le _
  | [x], h => by
    rw [Lib.join_one]
    exact List.length_pos_iff.2 (h x (List.mem_cons_self ..))
  | x :: y :: r, h => by
    rw [join_two]
    have h1 := List.length_pos_iff.2 (h x (List.mem_cons_self ..))
    have := join_ge sep (y :: r) fun z hz => h z (List.mem_cons_of_mem _ hz)
    simp only [List.length_append, List.length_cons] at this ⊢
    omega

/-- Names are read back. -/
theorem on_read {N : List (List UInt8)} (hN : mayNames N = true) (t : List UInt8) (ht : ∀ c, t.head? = some c → isW c = false ∧ c ≠ 44) : ∀ (ks : List Nat) (f p : Nat) (last : Int) (on : Nat),
    ks ≠ [] → ks.Pairwise (· < ·) → (∀ k, k ∈ ks → k < N.length) → (∀ k : Nat, k ∈ ks → last < (k : Int)) → ks.length ≤ f →
    ∃ p', onL N f (Lib.join (ks.map fun k => N.getD k []) [44] ++ t) p last on = (on + sum2 ks, t, p', 0)
  | [], _, _, _, _, h, _, _, _, _ => absurd rfl h
  | k :: ks, 0, _, _, _, _, _, _, _, h => absurd h (by simp)
  | k :: ks, f + 1, p, last, on, _, hp, hlt, hla, hf => by
    obtain ⟨_, hnd, hmay⟩ := mayNames_at hN
    have hk := hlt k (List.mem_cons_self ..)
    obtain ⟨c, r, e, hc, hall⟩ := mayName_ne (hmay k hk)
    have hi := idxI_at hnd hk
    obtain ⟨X, hX⟩ : ∃ X, X = N.getD k [] := ⟨_, rfl⟩
    rw [← hX] at e hall hi
    have hl := hla k (List.mem_cons_self ..)
    cases ks with
    | nil =>
      have tk := take_app (p := isW) hall (b := t) fun c hc => (ht c hc).1
      have h1 : (Lib.join ([k].map fun k => N.getD k []) [44] ++ t) = X ++ t := by rw [List.map_cons, List.map_nil, Lib.join_one, ← hX]
      rw [h1]
      refine ⟨p + X.length, ?_⟩
      unfold onL
      rw [tk.1, tk.2, hi, if_neg (by rw [takeL_nil, e]; intro h; have := h c rfl; rw [hc] at this; cases this), if_neg (by omega), if_neg (by omega), if_neg (by intro h; exact (ht _ h).2 rfl)]
      simp only [Int.toNat_natCast]
      rfl
    | cons k2 ks =>
      have tk := take_app (p := isW) hall (b := 44 :: (Lib.join ((k2 :: ks).map fun k => N.getD k []) [44] ++ t)) fun c hc => by
        simp only [List.head?_cons, Option.some.injEq] at hc; subst hc; decide
      have h1 : (Lib.join ((k :: k2 :: ks).map fun k => N.getD k []) [44] ++ t) = X ++ 44 :: (Lib.join ((k2 :: ks).map fun k => N.getD k []) [44] ++ t) := by
        rw [List.map_cons, List.map_cons, join_two, ← hX]
        simp
      rw [h1]
      have hpw := List.pairwise_cons.1 hp
      obtain ⟨p', ih⟩ := on_read hN t ht (k2 :: ks) f (p + X.length + 1) k (on + 2 ^ k) (by simp) hpw.2 (fun j hj => hlt j (List.mem_cons_of_mem _ hj)) (fun j hj => by have := hpw.1 j hj; omega) (by simpa using hf)
      refine ⟨p', ?_⟩
      unfold onL
      rw [tk.1, tk.2, hi, if_neg (by rw [takeL_nil, e]; intro h; have := h c rfl; rw [hc] at this; cases this), if_neg (by omega), if_neg (by omega), if_pos (by rfl)]
      simp only [Int.toNat_natCast, List.tail_cons]
      rw [ih, sum2_cons k, Nat.add_assoc]
theorem digits_of {n : Int} (h : 1 ≤ n) : (Lib.itoa n).all isD = true ∧ (valD 0 (Lib.itoa n) : Int) = n ∧ Lib.itoa n ≠ [] ∧ (Lib.itoa n).head? ≠ some 48 := by
  have e : Lib.itoa n = Lib.decDigits n.toNat := by unfold Lib.itoa; rw [if_neg (by omega)]
  obtain ⟨a, b, c, d⟩ := dec_canon n.toNat
  rw [e]
  exact ⟨a, by rw [b]; omega, c, d (by omega)⟩
theorem onNames_nil {N : List (List UInt8)} {m : Nat} (h : m < 2 ^ N.length) : onNames N m = [] ↔ m = 0 := by
  unfold onNames
  rw [List.map_eq_nil_iff]
  constructor
  · intro h0
    have := bits_sum N.length m h
    rw [h0] at this
    exact this.symm
  · rintro rfl
    have := (sum2_bits N.length [] List.Pairwise.nil (fun k hk => by cases hk)).2
    exact this
/-- A segment is read back. -/
theorem seg_read {N : List (List UInt8)} (hN : mayNames N = true) (t : List UInt8) (ht : ∀ c, t.head? = some c → isW c = false ∧ c ≠ 44) (s : Sg) (h1 : 1 ≤ s.1) (h2 : s.1 < 288230376151711744) (h3 : s.2 < 2 ^ N.length) (p : Nat) :
    ∃ p', segL N (segT N s ++ t) p = (s, t, p', 0) := by
  obtain ⟨d1, d2, d3, d4⟩ := digits_of h1
  obtain ⟨D, hD⟩ : ∃ D, D = Lib.itoa s.1 := ⟨_, rfl⟩
  obtain ⟨n, m⟩ := s
  simp only at h1 h2 h3 d1 d2 d3 d4 hD
  rw [← hD] at d1 d2 d3 d4
  by_cases hm : onNames N m = []
  · have m0 := (onNames_nil h3).1 hm
    have e : segT N (n, m) ++ t = D ++ 58 :: 45 :: t := by
      unfold segT; rw [if_pos hm, ← hD]; simp
    have tk := take_app (p := isD) d1 (b := 58 :: 45 :: t) fun c hc => by
        simp only [List.head?_cons, Option.some.injEq] at hc; subst hc; decide
    rw [e]
    refine ⟨p + D.length + 2, ?_⟩
    unfold segL
    rw [tk.1, tk.2, if_neg (by rintro (h | h | h); exact d3 h; exact d4 h; omega), if_neg (by simp), if_pos (by rfl), d2, m0]
    rfl
  · have e : segT N (n, m) ++ t = D ++ 58 :: (Lib.join ((bitsF N.length m).map fun k => N.getD k []) [44] ++ t) := by
      unfold segT; rw [if_neg hm, ← hD]; simp [onNames]
    have tk := take_app (p := isD) d1 (b := 58 :: (Lib.join ((bitsF N.length m).map fun k => N.getD k []) [44] ++ t)) fun c hc => by
        simp only [List.head?_cons, Option.some.injEq] at hc; subst hc; decide
    obtain ⟨b1, b2⟩ := bits_pw N.length m
    have hb : bitsF N.length m ≠ [] := fun h0 => hm (by unfold onNames; rw [h0]; rfl)
    have hg := join_ge [44] ((bitsF N.length m).map fun k => N.getD k []) (fun x hx => by
      obtain ⟨k, hk, rfl⟩ := List.mem_map.1 hx
      obtain ⟨c, r, e, _⟩ := mayName_ne ((mayNames_at hN).2.2 k (b2 k hk))
      rw [e]; simp)
    rw [List.length_map] at hg
    obtain ⟨R, hR⟩ : ∃ R, R = D ++ 58 :: (Lib.join ((bitsF N.length m).map fun k => N.getD k []) [44] ++ t) := ⟨_, rfl⟩
    obtain ⟨p', ho⟩ := on_read hN t ht (bitsF N.length m) (R.length + 1) (p + D.length + 1) (-1) 0 hb b1 b2 (fun k _ => by omega) (by rw [hR]; simp only [List.length_append, List.length_cons]; omega)
    rw [bits_sum _ _ h3, Nat.zero_add] at ho
    rw [e]
    refine ⟨p', ?_⟩
    have hh : ¬ ((Lib.join ((bitsF N.length m).map fun k => N.getD k []) [44] ++ t).head? = some 45) := by
      cases hbb : bitsF N.length m with
      | nil => exact absurd hbb hb
      | cons k ks =>
        obtain ⟨c, r, e, hc, _⟩ := mayName_ne ((mayNames_at hN).2.2 k (b2 k (by rw [hbb]; exact List.mem_cons_self ..)))
        have : ∃ z, Lib.join ((k :: ks).map fun k => N.getD k []) [44] = c :: z := by
          cases ks with
          | nil => rw [List.map_cons, List.map_nil, Lib.join_one, e]; exact ⟨_, rfl⟩
          | cons k2 ks => rw [List.map_cons, List.map_cons, join_two, e]; exact ⟨_, rfl⟩
        obtain ⟨z, hz⟩ := this
        rw [hz]
        intro h
        simp only [List.cons_append, List.head?_cons, Option.some.injEq] at h
        subst h; exact absurd hc (by decide)
    unfold segL
    rw [tk.1, tk.2, if_neg (by rintro (h | h | h); exact d3 h; exact d4 h; omega), if_neg (by simp)]
    rw [if_neg (by exact hh)]
    simp only [List.tail_cons]
    rw [← hR, ho, d2]
theorem segT_ne (N : List (List UInt8)) (s : Sg) : segT N s ≠ [] := by unfold segT; simp
theorem all_read {N : List (List UInt8)} (hN : mayNames N = true) : ∀ (L : List Sg) (f p : Nat) (acc : List Sg), L ≠ [] → (∀ s, s ∈ L → 1 ≤ s.1 ∧ s.1 < 288230376151711744 ∧ s.2 < 2 ^ N.length) → L.length ≤ f → allL N f (Lib.join (L.map (segT N)) [59]) p acc = (acc ++ L, 0, 0)
  | [], _, _, _, h, _, _ => absurd rfl h
  | _ :: _, 0, _, _, _, _, h => absurd h (by simp)
  | s :: L, f + 1, p, acc, _, h, hf => by
    obtain ⟨h1, h2, h3⟩ := h s (List.mem_cons_self ..)
    cases L with
    | nil =>
      obtain ⟨p', hs⟩ := seg_read hN [] (fun c h => by cases h) s h1 h2 h3 p
      rw [List.append_nil] at hs
      rw [List.map_cons, List.map_nil, Lib.join_one]
      unfold allL
      rw [hs, if_neg (by simp), if_pos rfl]
    | cons s2 L =>
      obtain ⟨p', hs⟩ := seg_read hN (59 :: Lib.join ((s2 :: L).map (segT N)) [59]) (fun c h => by
        simp only [List.head?_cons, Option.some.injEq] at h; subst h; decide) s h1 h2 h3 p
      have e : Lib.join ((s :: s2 :: L).map (segT N)) [59] = segT N s ++ 59 :: Lib.join ((s2 :: L).map (segT N)) [59] := by
        rw [List.map_cons, List.map_cons, join_two]; rfl
      rw [e]
      unfold allL
      rw [hs, if_neg (by simp), if_neg (by simp), if_pos (by rfl)]
      simp only [List.tail_cons]
      rw [all_read hN (s2 :: L) f (p' + 1) (acc ++ [s]) (by simp) (fun z hz => h z (List.mem_cons_of_mem _ hz)) (by simpa using hf)]
      simp
theorem far_lt : ∀ (L : List Sg) (left : Int), farL left L = false → (∀ s, s ∈ L → 1 ≤ s.1) → ∀ s, s ∈ L → s.1 < left
  | s :: L, left, h, h1, z, hz => by
    unfold farL at h
    simp only [Bool.or_eq_false_iff, decide_eq_false_iff_not] at h
    rcases List.mem_cons.1 hz with rfl | hz
    · omega
    · have := far_lt L (left - s.1) h.2 (fun y hy => h1 y (List.mem_cons_of_mem _ hy)) z hz
      have := h1 s (List.mem_cons_self ..)
      omega
theorem check_ok {n : Nat} {L : List Sg} (h : checkS n L = 0) : L.length ≤ 1024 ∧ farL 288230376151711744 L = false ∧ ∀ s, s ∈ L → 1 ≤ s.1 ∧ s.1 < 288230376151711744 ∧ s.2 < 2 ^ n := by
  unfold checkS at h
  split at h
  · cases h
  · rename_i h0
    split at h
    · cases h
    · rename_i h1
      split at h
      · cases h
      · rename_i h2
        have h2 : farL 288230376151711744 L = false := by simpa using h2
        have hs : ∀ s, s ∈ L → 1 ≤ s.1 ∧ s.2 < 2 ^ n := fun s hs => by
          have : oddS n s = false := by
            rw [Bool.eq_false_iff]; intro he
            exact h1 (List.any_eq_true.2 ⟨s, hs, he⟩)
          unfold oddS at this
          simp only [Bool.or_eq_false_iff, decide_eq_false_iff_not] at this
          omega
        refine ⟨by omega, h2, fun s hm => ⟨(hs s hm).1, far_lt L _ h2 (fun z hz => (hs z hz).1) s hm, (hs s hm).2⟩⟩
/-- The text of a signal is read back. -/
theorem parse_print {N : List (List UInt8)} {L : List Sg} (hc : checkS N.length L = 0) (hN : mayNames N = true) :
    parseS N (Lib.join (L.map (segT N)) [59]) = if 4096 < (Lib.join (L.map (segT N)) [59]).length then ([], 0, 3) else (L, 0, 0) := by
  obtain ⟨c1, c2, c3⟩ := check_ok hc
  unfold parseS
  rw [if_neg (by rw [hN]; simp)]
  by_cases hb : 4096 < (Lib.join (L.map (segT N)) [59]).length
  · rw [if_pos hb, if_pos hb]
  · rw [if_neg hb, if_neg hb]
    have hg := join_ge [59] (L.map (segT N)) (fun x hx => by
      obtain ⟨s, _, rfl⟩ := List.mem_map.1 hx
      exact segT_ne N s)
    rw [List.length_map] at hg
    cases L with
    | nil => rw [if_pos (by rfl)]
    | cons s L =>
      have ha := all_read hN (s :: L) ((Lib.join ((s :: L).map (segT N)) [59]).length + 1) 0 [] (by simp) c3 (by omega)
      rw [if_neg (by
        intro h
        rw [h] at hg
        simp at hg), ha]
      simp only [List.nil_append]
      rw [if_neg (by simp), if_neg (by simpa using hc)]
#print axioms parse_print
end Go.Proofs.YtccbhblklhmcpaaGreatDoor
