/- The document's signals: contract of its 'segment'. No condition but on sizes. -/
import Derived.Test.YtccbhblklhmcpaaGreatDoorR6
namespace Go.Proofs.YtccbhblklhmcpaaGreatDoor
set_option linter.unusedSimpArgs false
set_option linter.unusedVariables false
open Go Go.RowKit
attribute [local go_sem] Nat.add_assoc Nat.add_lt_add_iff_left lit_lt_add

theorem valD_ge : ∀ (l : List UInt8) (acc : Nat), acc * 10 ^ l.length ≤ valD acc l
  | [], acc => by show acc * 1 ≤ acc; omega
  | c :: r, acc => by
    have ih := valD_ge r (acc * 10 + (c.toNat - 48))
    unfold valD
    refine Nat.le_trans ?_ ih
    rw [List.length_cons, Nat.pow_succ, Nat.mul_comm (10 ^ r.length) 10, ← Nat.mul_assoc]
    exact Nat.mul_le_mul_right _ (by omega)
theorem valD_long {l : List UInt8} (hd : l.all isD = true) (h48 : l.head? ≠ some 48) (hl : 18 < l.length) : 288230376151711744 ≤ valD 0 l := by
  cases l with
  | nil => simp at hl
  | cons c r =>
    simp only [List.all_cons, Bool.and_eq_true] at hd
    have hc := of_decide_eq_true (show decide (48 ≤ c.toNat ∧ c.toNat ≤ 57) = true from hd.1)
    have h1 : 1 ≤ 0 * 10 + (c.toNat - 48) := by
      have : c.toNat ≠ 48 := fun e => h48 (by rw [List.head?_cons, Option.some.injEq]; exact UInt8.toNat_inj.1 e)
      omega
    have h2 := valD_ge r (0 * 10 + (c.toNat - 48))
    unfold valD
    refine Nat.le_trans ?_ h2
    have h3 : 10 ^ 18 ≤ 10 ^ r.length := Nat.pow_le_pow_right (by omega) (by simp at hl; omega)
    have h4 : (288230376151711744 : Nat) ≤ 10 ^ 18 := by decide
    refine Nat.le_trans h4 (Nat.le_trans h3 ?_)
    have := Nat.mul_le_mul_right (10 ^ r.length) h1
    omega
theorem head_at {s : List UInt8} {p : Nat} {P : UInt8 → Bool} (h : ((s.drop p).takeWhile P).length ≠ 0) : ((s.drop p).takeWhile P).head? = s[p]? := by
  obtain ⟨x, hx, _, hxD⟩ := run_in (P := P) (s := s) (p := p) (i := 0) (by omega)
  rw [List.head?_eq_getElem?, hxD, ← hx, Nat.add_zero]
theorem seg_no {N : List (List UInt8)} {s : List UInt8} {p : Nat} (h : (numR s p).2.2 = false) : segL N (s.drop p) p = ((0, 0), s.drop p, p, 170) := by
  unfold segL
  rw [if_pos]
  by_cases h0 : (s.drop p).takeWhile isD = []
  · exact .inl h0
  · refine .inr ?_
    have hl0 : ((s.drop p).takeWhile isD).length ≠ 0 := fun e => h0 (List.length_eq_zero_iff.1 e)
    by_cases h48 : ((s.drop p).takeWhile isD).head? = some 48
    · exact .inl h48
    · refine .inr ?_
      by_cases h18 : 18 < ((s.drop p).takeWhile isD).length
      · exact valD_long all_take h48 h18
      · unfold numR at h
        rw [if_neg h18] at h
        rw [head_at hl0] at h48
        simp only [decide_eq_true hl0, decide_eq_true h48, Bool.true_and, decide_eq_false_iff_not] at h
        omega
theorem num_yes {s : List UInt8} {p : Nat} (h : (numR s p).2.2 = true) : (numR s p).1 = valD 0 ((s.drop p).takeWhile isD) ∧ (numR s p).2.1 = p + ((s.drop p).takeWhile isD).length ∧
    ¬ ((s.drop p).takeWhile isD = [] ∨ ((s.drop p).takeWhile isD).head? = some 48 ∨ 288230376151711744 ≤ valD 0 ((s.drop p).takeWhile isD)) := by
  unfold numR at h ⊢
  by_cases h18 : 18 < ((s.drop p).takeWhile isD).length
  · rw [if_pos h18] at h; cases h
  · rw [if_neg h18] at h ⊢
    simp only [Bool.and_eq_true, decide_eq_true_eq] at h
    obtain ⟨⟨h1, h2⟩, h3⟩ := h
    refine ⟨rfl, rfl, ?_⟩
    rintro (h | h | h)
    · exact h1 (by rw [h]; rfl)
    · rw [head_at h1] at h; exact h2 h
    · omega
set_option maxRecDepth 10000 in
set_option maxHeartbeats 2000000 in
theorem segment21_any (w : World) (q : Option Addr) (c : Nat) (N : List (List UInt8)) (s : List UInt8) (p : Nat) (hQ : SlS w q N) (hN : N.length ≤ 8) (hp : p ≤ s.length) (hs : s.length ≤ 100000000000000) :
    Calls Tryz.prog 14 #[.slice q N.length c, .string (bs s), .int .i64 p] w (Gives w (.tuple #[.agg #[.int .i64 (segL N (s.drop p) p).1.1, .int .u8 (segL N (s.drop p) p).1.2], .int .i64 (segL N (s.drop p) p).2.2.1, .int .i64 (segL N (s.drop p) p).2.2.2])) := by
  obtain ⟨o, ho⟩ : ∃ o, o = segL N (s.drop p) p := ⟨_, rfl⟩
  rw [← ho]
  have NM := Lib.hid (number21_any s p hp (by omega))
  have IS : Hid (∀ (e : Nat) (c : UInt8), e ≤ 140737488355328 → Pure Tryz.prog 31 #[.string (bs s), .int .i64 e, .int .u8 c.toNat] (.bool (decide (s[e]? = some c)))) := fun e c he => is21_any s e c he (by omega)
  have PR : Hid (∀ (p0 : Nat) w', Below w.heap.size w w' → p ≤ p0 → p0 ≤ s.length → Calls Tryz.prog 32 #[.slice q N.length c, .string (bs s), .int .i64 p0] w' (Gives w' (.tuple #[.int .u8 (onL N ((s.drop p).length + 1) (s.drop p0) p0 (-1) 0).1, .int .i64 (onL N ((s.drop p).length + 1) (s.drop p0) p0 (-1) 0).2.2.1, .int .i64 (onL N ((s.drop p).length + 1) (s.drop p0) p0 (-1) 0).2.2.2]))) := fun p0 w' hb h1 h2 =>
    props21_any w' q c N s p0 (hQ.below hb) hN h2 (by omega) _ (by rw [List.length_drop, List.length_drop]; omega)
  have hle := run_le (P := isD) hp
  obtain ⟨S, hS⟩ : ∃ S, S = bs s := ⟨_, rfl⟩
  obtain ⟨n, hn⟩ : ∃ n, n = s.length := ⟨_, rfl⟩
  obtain ⟨d, hd⟩ : ∃ d, d = N.length := ⟨_, rfl⟩
  rw [← hS] at NM IS PR ⊢
  rw [← hn] at PR hp hs hle
  rw [← hd] at PR ⊢
  have Hn := Lib.hid hn
  have HO := Lib.hid ho
  clear hQ hN hS hn hd ho
  cases hb : (numR s p).2.2
  · have hoo : o = ((0, 0), s.drop p, p, 170) := HO.out.trans (seg_no hb)
    have HOO := Lib.hid hoo
    obtain ⟨a, ha⟩ : ∃ a, a = (numR s p).1 := ⟨_, rfl⟩
    obtain ⟨b, hb'⟩ : ∃ b, b = (numR s p).2.1 := ⟨_, rfl⟩
    rw [hb, ← ha, ← hb'] at NM
    clear hoo ha hb' hb PR IS
    go_enter Tryz.func14, Tryz.ntmps14
    go_wp2_with (fail)
    refine (NM.out _).mono ?_; rintro e w' ⟨rfl, q1, rfl⟩
    go_wp2_with (fail)
    refine bodyPost_ret (by simp [results, Tryz.results14, go_sem]; try rfl) rfl ?_
    exact gives_end (by rw [HOO.out]; first | done | (simp [go_sem]; done) | (simp [go_sem]; omega)) (by (repeat' (first | (with_reducible assumption) | (with_reducible exact Below.refl _ _) | (with_reducible refine below_wov ?_ ?_ _) | (with_reducible refine below_drewN ?_ _) | (with_reducible refine Below.drew ?_) | (with_reducible refine Below.alloc ?_ ?_ _) | (with_reducible refine Below.setCell ?_ ?_ _) | (with_reducible exact Nat.le_refl _) | omega | (simp only [World.size_alloc, World.size_setCell, World.size_drew, Wov_size, World.heap_drewN]; omega))))
  · obtain ⟨n1, n2, n3⟩ := num_yes hb
    rw [hb, n1, n2] at NM
    obtain ⟨v, hv⟩ : ∃ v : Int, v = (valD 0 ((s.drop p).takeWhile isD) : Nat) := ⟨_, rfl⟩
    obtain ⟨e, he⟩ : ∃ e, e = p + ((s.drop p).takeWhile isD).length := ⟨_, rfl⟩
    rw [← hv, ← he] at NM
    have hpe : p ≤ e := by omega
    have hen : e ≤ n := by omega
    have HV := Lib.hid hv
    have HE := Lib.hid he
    have HDW : Hid ((s.drop p).dropWhile isD = s.drop e) := by
      show _ = _
      rw [← drop_len, List.drop_drop, ← he]
    have hhd : ((s.drop p).dropWhile isD).head? = s[e]? := by rw [HDW.out, List.head?_eq_getElem?, List.getElem?_drop, Nat.add_zero]
    have I1 : Hid (Pure Tryz.prog 31 #[.string S, .int .i64 (e : Nat), .int .u8 58] (.bool (decide (s[e]? = some 58)))) := IS.out e 58 (by omega)
    by_cases h58 : s[e]? = some 58
    · have he1 : e < n := by rw [Hn.out]; exact (List.getElem?_eq_some_iff.1 h58).1
      rw [decide_eq_true h58] at I1
      have hw1 : wrap64 ((e : Int) + 1) = (e : Int) + 1 := wrap64_id (by omega) (by omega)
      have I2 : Hid (Pure Tryz.prog 31 #[.string S, .int .i64 ((e : Int) + 1), .int .u8 45] (.bool (decide (s[e + 1]? = some 45)))) := by
        have := IS.out (e + 1) 45 (by omega)
        rw [Int.natCast_succ] at this
        exact this
      have htl : ((s.drop p).dropWhile isD).tail.head? = s[e + 1]? := by rw [HDW.out, List.tail_drop, List.head?_eq_getElem?, List.getElem?_drop, Nat.add_zero]
      by_cases h45 : s[e + 1]? = some 45
      · have hoo : o = ((v, 0), s.drop (e + 2), e + 2, 0) := by
          rw [HO.out]; unfold segL
          rw [if_neg n3, hhd, if_neg (by rw [h58]; simp), htl, if_pos h45, HDW.out, List.tail_drop, List.tail_drop, ← he, ← hv]
        have HOO := Lib.hid hoo
        have hw2 : wrap64 ((e : Int) + 1 + 1) = (e : Int) + 1 + 1 := wrap64_id (by omega) (by omega)
        rw [decide_eq_true h45] at I2
        clear hoo h45 htl h58 hhd n1 n2 n3 hb hv he PR IS
        go_enter Tryz.func14, Tryz.ntmps14
        go_wp2_with (fail)
        refine (NM.out _).mono ?_; rintro e' w' ⟨rfl, q1, rfl⟩
        go_wp2_with (fail)
        refine (I1.out _).mono ?_; rintro e' w' ⟨rfl, q2, rfl⟩
        go_wp2_with (fail)
        refine (I2.out _).mono ?_; rintro e' w' ⟨rfl, q3, rfl⟩
        go_wp2_with (fail)
        refine bodyPost_ret (by simp [results, Tryz.results14, go_sem]; try rfl) rfl ?_
        exact gives_end (by rw [HOO.out]; first | done | (simp [go_sem]; done) | (simp [go_sem]; omega)) (by (repeat' (first | (with_reducible assumption) | (with_reducible exact Below.refl _ _) | (with_reducible refine below_wov ?_ ?_ _) | (with_reducible refine below_drewN ?_ _) | (with_reducible refine Below.drew ?_) | (with_reducible refine Below.alloc ?_ ?_ _) | (with_reducible refine Below.setCell ?_ ?_ _) | (with_reducible exact Nat.le_refl _) | omega | (simp only [World.size_alloc, World.size_setCell, World.size_drew, Wov_size, World.heap_drewN]; omega))))
      · have P1 := Lib.hid (fun w' hb => PR.out (e + 1) w' hb (by omega) (by omega))
        obtain ⟨r, hr⟩ : ∃ r, r = onL N ((s.drop p).length + 1) (s.drop (e + 1)) (e + 1) (-1) 0 := ⟨_, rfl⟩
        rw [← hr, Int.natCast_succ] at P1
        have hoo : o = ((v, r.1), r.2.1, r.2.2.1, r.2.2.2) := by
          rw [HO.out]; unfold segL
          rw [if_neg n3, hhd, if_neg (by rw [h58]; simp), htl, if_neg h45, HDW.out, List.tail_drop, ← he, ← hv, hr]
        have HOO := Lib.hid hoo
        rw [decide_eq_false h45] at I2
        clear hoo h45 htl h58 hhd n1 n2 n3 hb hv he PR IS hr
        go_enter Tryz.func14, Tryz.ntmps14
        go_wp2_with (fail)
        refine (NM.out _).mono ?_; rintro e' w' ⟨rfl, q1, rfl⟩
        go_wp2_with (fail)
        refine (I1.out _).mono ?_; rintro e' w' ⟨rfl, q2, rfl⟩
        go_wp2_with (fail)
        refine (I2.out _).mono ?_; rintro e' w' ⟨rfl, q3, rfl⟩
        go_wp2_with (fail)
        refine (P1.out _ (by (repeat' (first | (with_reducible assumption) | (with_reducible exact Below.refl _ _) | (with_reducible refine below_wov ?_ ?_ _) | (with_reducible refine below_drewN ?_ _) | (with_reducible refine Below.drew ?_) | (with_reducible refine Below.alloc ?_ ?_ _) | (with_reducible refine Below.setCell ?_ ?_ _) | (with_reducible exact Nat.le_refl _) | omega | (simp only [World.size_alloc, World.size_setCell, World.size_drew, Wov_size, World.heap_drewN]; omega))))).mono ?_; rintro e' w' ⟨rfl, q4, rfl⟩
        go_wp2_with (fail)
        refine bodyPost_ret (by simp [results, Tryz.results14, go_sem]; try rfl) rfl ?_
        exact gives_end (by rw [HOO.out]; first | done | (simp [go_sem]; done) | (simp [go_sem]; omega)) (by (repeat' (first | (with_reducible assumption) | (with_reducible exact Below.refl _ _) | (with_reducible refine below_wov ?_ ?_ _) | (with_reducible refine below_drewN ?_ _) | (with_reducible refine Below.drew ?_) | (with_reducible refine Below.alloc ?_ ?_ _) | (with_reducible refine Below.setCell ?_ ?_ _) | (with_reducible exact Nat.le_refl _) | omega | (simp only [World.size_alloc, World.size_setCell, World.size_drew, Wov_size, World.heap_drewN]; omega))))
    · have hoo : o = ((0, 0), s.drop e, e, 170) := by
        rw [HO.out]; unfold segL
        rw [if_neg n3, hhd, if_pos h58, HDW.out, ← he]
      have HOO := Lib.hid hoo
      rw [decide_eq_false h58] at I1
      clear hoo h58 hhd n1 n2 n3 hb hv he PR IS
      go_enter Tryz.func14, Tryz.ntmps14
      go_wp2_with (fail)
      refine (NM.out _).mono ?_; rintro e' w' ⟨rfl, q1, rfl⟩
      go_wp2_with (fail)
      refine (I1.out _).mono ?_; rintro e' w' ⟨rfl, q2, rfl⟩
      go_wp2_with (fail)
      refine bodyPost_ret (by simp [results, Tryz.results14, go_sem]; try rfl) rfl ?_
      exact gives_end (by rw [HOO.out]; first | done | (simp [go_sem]; done) | (simp [go_sem]; omega)) (by (repeat' (first | (with_reducible assumption) | (with_reducible exact Below.refl _ _) | (with_reducible refine below_wov ?_ ?_ _) | (with_reducible refine below_drewN ?_ _) | (with_reducible refine Below.drew ?_) | (with_reducible refine Below.alloc ?_ ?_ _) | (with_reducible refine Below.setCell ?_ ?_ _) | (with_reducible exact Nat.le_refl _) | omega | (simp only [World.size_alloc, World.size_setCell, World.size_drew, Wov_size, World.heap_drewN]; omega))))
#print axioms segment21_any
end Go.Proofs.YtccbhblklhmcpaaGreatDoor
