/- Contracts of tight's of, sides and Between: a matrix with a clock in a span. -/
import Derived.Test.YtlcbpckinjkfeaaE5
import Derived.Test.YtlcbpckinjkfeaaE7
namespace Go.Proofs.Ytlcbpckinjkfeaa
set_option linter.unusedSimpArgs false
set_option linter.unusedVariables false
open Go Go.RowKit Go.Shelf
attribute [local go_sem] Nat.add_assoc Nat.add_lt_add_iff_left lit_lt_add

set_option maxHeartbeats 400000 in
theorem less_any (c : Int) (h1 : -9223372036854775808 ≤ c) (h2 : c ≤ 9223372036854775807) :
    Pure Try.prog 170 #[.int .i64 c] (pair2 (madeR c true)) := by
  intro w
  have C := made_any c true h1 h2
  obtain ⟨⟨x, y⟩, hr⟩ : ∃ r, r = madeR c true := ⟨_, rfl⟩
  rw [← hr] at C ⊢
  clear hr
  simp only [pair2] at C
  go_enter Try.func170, Try.ntmps170
  go_wp2_with (go_at_call 83; refine (C _).mono ?_; rintro e w' ⟨rfl, p, rfl⟩)
  go_ret2
  exact gives_pair rfl (by (repeat' (first | (with_reducible assumption) | (with_reducible exact Below.refl _ _) | (with_reducible refine below_wov ?_ ?_ _) | (with_reducible refine below_drewN ?_ _) | (with_reducible refine Below.drew ?_) | (with_reducible refine Below.alloc ?_ ?_ _) | (with_reducible refine Below.setCell ?_ ?_ _) | (with_reducible exact Nat.le_refl _) | omega | (simp only [World.size_alloc, World.size_setCell, World.size_drew, Wov_size, World.heap_drewN]; omega))))

set_option maxHeartbeats 800000 in
theorem tof_any (c : Int) (s : Bool) (h1 : -9223372036854775808 ≤ c) (h2 : c ≤ 9223372036854775807) :
    Pure Try.prog 150 #[.int .i64 c, .bool s] (.int .i64 (madeR c s).1) := by
  intro w
  cases s
  · have C := most_any c h1 h2
    obtain ⟨⟨x, y⟩, hr⟩ : ∃ r, r = madeR c false := ⟨_, rfl⟩
    rw [← hr] at C ⊢
    clear hr h1 h2
    simp only [pair2] at C
    go_enter Try.func150, Try.ntmps150
    go_wp2_with (go_at_call 84; refine (C _).mono ?_; rintro e w' ⟨rfl, p, rfl⟩)
    go_ret
    exact gives_int rfl (by (repeat' (first | (with_reducible assumption) | (with_reducible exact Below.refl _ _) | (with_reducible refine below_wov ?_ ?_ _) | (with_reducible refine below_drewN ?_ _) | (with_reducible refine Below.drew ?_) | (with_reducible refine Below.alloc ?_ ?_ _) | (with_reducible refine Below.setCell ?_ ?_ _) | (with_reducible exact Nat.le_refl _) | omega | (simp only [World.size_alloc, World.size_setCell, World.size_drew, Wov_size, World.heap_drewN]; omega))))
  · have C := less_any c h1 h2
    obtain ⟨⟨x, y⟩, hr⟩ : ∃ r, r = madeR c true := ⟨_, rfl⟩
    rw [← hr] at C ⊢
    clear hr h1 h2
    simp only [pair2] at C
    go_enter Try.func150, Try.ntmps150
    go_wp2_with (go_at_call 170; refine (C _).mono ?_; rintro e w' ⟨rfl, p, rfl⟩)
    go_ret
    exact gives_int rfl (by (repeat' (first | (with_reducible assumption) | (with_reducible exact Below.refl _ _) | (with_reducible refine below_wov ?_ ?_ _) | (with_reducible refine below_drewN ?_ _) | (with_reducible refine Below.drew ?_) | (with_reducible refine Below.alloc ?_ ?_ _) | (with_reducible refine Below.setCell ?_ ?_ _) | (with_reducible exact Nat.le_refl _) | omega | (simp only [World.size_alloc, World.size_setCell, World.size_drew, Wov_size, World.heap_drewN]; omega))))

theorem madeR_ok {c : Int} {s : Bool} (h1 : -288230376151711744 ≤ c) (h2 : c ≤ 288230376151711744) : (madeR c s).1 = mkB c s := by
  have : okN c = true := by unfold okN; simp; omega
  rw [madeR, if_pos this]
def sidesPost (w : World) (lo : Int) (ls : Bool) (hi : Int) (hs op : Bool) (e : Ending) (W : World) : Prop :=
  ∃ a b, e = .returned (.tuple #[.int .i64 a, .int .i64 b, .bool (spanB lo hi hs op)]) ∧ (spanB lo hi hs op = true → a = belowB lo ls ∧ b = aboveB hi hs op) ∧ ∃ q, W = Wov w q

set_option maxRecDepth 10000 in
set_option maxHeartbeats 4000000 in
theorem sides_any (lo : Int) (ls : Bool) (hi : Int) (hs op : Bool) (w : World) (hlo : fits64 lo) (hhi : fits64 hi) :
    Calls Try.prog 103 #[.agg #[.int .i64 lo, .bool ls, .int .i64 hi, .bool hs, .bool op]] w (sidesPost w lo ls hi hs op) := by
  unfold fits64 at hlo hhi
  by_cases h1 : lo < -288230376151711744
  · have S : Hid (spanB lo hi hs op = false) := by show _ = _; unfold spanB; rw [decide_eq_false (by omega)]; rfl
    have fin : Hid (∀ W' x1 x2, Below w.heap.size w W' → sidesPost w lo ls hi hs op (.returned (.tuple #[.int .i64 x1, .int .i64 x2, .bool false])) W') := fun W' x1 x2 hb => ⟨x1, x2, by rw [S.out], (fun h => by rw [S.out] at h; cases h), Wov_of_below hb⟩
    clear S
    go_enter Try.func103, Try.ntmps103
    go_wp2
    all_goals
      go_ret3
      exact fin.out _ _ _ (by (repeat' (first | (with_reducible assumption) | (with_reducible exact Below.refl _ _) | (with_reducible refine below_wov ?_ ?_ _) | (with_reducible refine below_drewN ?_ _) | (with_reducible refine Below.drew ?_) | (with_reducible refine Below.alloc ?_ ?_ _) | (with_reducible refine Below.setCell ?_ ?_ _) | (with_reducible exact Nat.le_refl _) | omega | (simp only [World.size_alloc, World.size_setCell, World.size_drew, Wov_size, World.heap_drewN]; omega))))
  · by_cases h2 : 288230376151711744 < lo
    · have S : Hid (spanB lo hi hs op = false) := by show _ = _; unfold spanB; rw [decide_eq_false (show ¬ lo ≤ 288230376151711744 by omega)]; simp
      have e1 : decide (lo < -288230376151711744) = false := by simp; omega
      have fin : Hid (∀ W' x1 x2, Below w.heap.size w W' → sidesPost w lo ls hi hs op (.returned (.tuple #[.int .i64 x1, .int .i64 x2, .bool false])) W') := fun W' x1 x2 hb => ⟨x1, x2, by rw [S.out], (fun h => by rw [S.out] at h; cases h), Wov_of_below hb⟩
      clear S
      go_enter Try.func103, Try.ntmps103
      go_wp2
      all_goals
        go_ret3
        exact fin.out _ _ _ (by (repeat' (first | (with_reducible assumption) | (with_reducible exact Below.refl _ _) | (with_reducible refine below_wov ?_ ?_ _) | (with_reducible refine below_drewN ?_ _) | (with_reducible refine Below.drew ?_) | (with_reducible refine Below.alloc ?_ ?_ _) | (with_reducible refine Below.setCell ?_ ?_ _) | (with_reducible exact Nat.le_refl _) | omega | (simp only [World.size_alloc, World.size_setCell, World.size_drew, Wov_size, World.heap_drewN]; omega))))
    · have e1 : decide (lo < -288230376151711744) = false := by simp; omega
      have e2 : decide (288230376151711744 < lo) = false := by simp; omega
      by_cases h3 : 288230376151711744 < hi
      · have S : Hid (spanB lo hi hs op = false) := by show _ = _; unfold spanB; rw [decide_eq_false (show ¬ hi ≤ 288230376151711744 by omega)]; simp
        have fin : Hid (∀ W' x1 x2, Below w.heap.size w W' → sidesPost w lo ls hi hs op (.returned (.tuple #[.int .i64 x1, .int .i64 x2, .bool false])) W') := fun W' x1 x2 hb => ⟨x1, x2, by rw [S.out], (fun h => by rw [S.out] at h; cases h), Wov_of_below hb⟩
        clear S
        go_enter Try.func103, Try.ntmps103
        go_wp2
        all_goals
          go_ret3
          exact fin.out _ _ _ (by (repeat' (first | (with_reducible assumption) | (with_reducible exact Below.refl _ _) | (with_reducible refine below_wov ?_ ?_ _) | (with_reducible refine below_drewN ?_ _) | (with_reducible refine Below.drew ?_) | (with_reducible refine Below.alloc ?_ ?_ _) | (with_reducible refine Below.setCell ?_ ?_ _) | (with_reducible exact Nat.le_refl _) | omega | (simp only [World.size_alloc, World.size_setCell, World.size_drew, Wov_size, World.heap_drewN]; omega))))
      · have e3 : decide (288230376151711744 < hi) = false := by simp; omega
        have W1 : Hid (wrap64 (-lo) = -lo) := wrap64_id (by omega) (by omega)
        have T1 : Hid (Pure Try.prog 150 #[.int .i64 (-lo), .bool ls] (.int .i64 (belowB lo ls))) := by
          have := tof_any (-lo) ls (by omega) (by omega)
          rwa [madeR_ok (by omega) (by omega)] at this
        obtain ⟨bl, hbl⟩ : ∃ b, b = belowB lo ls := ⟨_, rfl⟩
        rw [← hbl] at T1
        have HBL := Lib.hid hbl
        clear hbl
        cases op
        · have T2 := Lib.hid (tof_any hi hs (by omega) (by omega))
          obtain ⟨ab, hab⟩ : ∃ b, b = (madeR hi hs).1 := ⟨_, rfl⟩
          rw [← hab] at T2
          have S : Hid (spanB lo hi hs false = decide (lo ≤ hi)) := by show _ = _; unfold spanB; rw [decide_eq_true (show -288230376151711744 ≤ lo by omega), decide_eq_true (show lo ≤ 288230376151711744 by omega), decide_eq_true (show hi ≤ 288230376151711744 by omega)]; rfl
          have HAB : Hid (lo ≤ hi → ab = mkB hi hs) := fun h => by rw [hab]; exact madeR_ok (by omega) (by omega)
          clear hab
          have fin : Hid (∀ W', Below w.heap.size w W' → sidesPost w lo ls hi hs false (.returned (.tuple #[.int .i64 bl, .int .i64 ab, .bool (decide (lo ≤ hi))])) W') := fun W' hb => ⟨bl, ab, by rw [S.out], (fun h => ⟨HBL.out, HAB.out (by rw [S.out] at h; simpa using h)⟩), Wov_of_below hb⟩
          clear S HAB h1 h2 h3 hlo hhi
          go_enter Try.func103, Try.ntmps103
          go_wp2_with (fail)
          rw [W1.out]
          refine (T1.out _).mono ?_; rintro e w' ⟨rfl, q1, rfl⟩
          go_wp2_with (fail)
          refine wp_region_wov (by kernel_rfl) (by kernel_rfl) ?_
          repeat (go_big_quiet_step ((go_at_call 150; (first | exact (T2.out).at _ _ | exact (T2.out).at2 _ _ _ | exact (T2.out).at3 _ _ _ _ | exact (T2.out).at4 _ _ _ _ _ | exact (T2.out).at5 _ _ _ _ _ _ | exact (T2.out).at6 _ _ _ _ _ _ _))))
          refine wpQuiet_nil ?_
          rintro _ ⟨pq, rfl⟩
          go_wp2
          go_ret3
          exact fin.out _ (by (repeat' (first | (with_reducible assumption) | (with_reducible exact Below.refl _ _) | (with_reducible refine below_wov ?_ ?_ _) | (with_reducible refine below_drewN ?_ _) | (with_reducible refine Below.drew ?_) | (with_reducible refine Below.alloc ?_ ?_ _) | (with_reducible refine Below.setCell ?_ ?_ _) | (with_reducible exact Nat.le_refl _) | omega | (simp only [World.size_alloc, World.size_setCell, World.size_drew, Wov_size, World.heap_drewN]; omega))))
        · have S : Hid (spanB lo hi hs true = (decide (hi = 0) && !hs)) := by show _ = _; unfold spanB; rw [decide_eq_true (show -288230376151711744 ≤ lo by omega), decide_eq_true (show lo ≤ 288230376151711744 by omega), decide_eq_true (show hi ≤ 288230376151711744 by omega)]; rfl
          have fin : Hid (∀ W' b, b = (decide (hi = 0) && !hs) → Below w.heap.size w W' → sidesPost w lo ls hi hs true (.returned (.tuple #[.int .i64 bl, .int .i64 9223372036854775807, .bool b])) W') := fun W' b hb' hb => ⟨bl, 9223372036854775807, by rw [S.out, hb'], (fun h => ⟨HBL.out, rfl⟩), Wov_of_below hb⟩
          clear S h1 h2 h3 hlo hhi HBL
          by_cases h0 : hi = 0
          · subst h0
            go_enter Try.func103, Try.ntmps103
            go_wp2_with (fail)
            rw [W1.out]
            refine (T1.out _).mono ?_; rintro e w' ⟨rfl, q1, rfl⟩
            go_wp2
            all_goals
              go_ret3
              exact fin.out _ _ (by simp_all) (by (repeat' (first | (with_reducible assumption) | (with_reducible exact Below.refl _ _) | (with_reducible refine below_wov ?_ ?_ _) | (with_reducible refine below_drewN ?_ _) | (with_reducible refine Below.drew ?_) | (with_reducible refine Below.alloc ?_ ?_ _) | (with_reducible refine Below.setCell ?_ ?_ _) | (with_reducible exact Nat.le_refl _) | omega | (simp only [World.size_alloc, World.size_setCell, World.size_drew, Wov_size, World.heap_drewN]; omega))))
          · have b0 : (hi == 0) = false := by rw [beq_eq_false_iff_ne]; exact h0
            go_enter Try.func103, Try.ntmps103
            go_wp2_with (fail)
            rw [W1.out]
            refine (T1.out _).mono ?_; rintro e w' ⟨rfl, q1, rfl⟩
            go_wp2
            all_goals
              go_ret3
              exact fin.out _ _ (by simp [h0]) (by (repeat' (first | (with_reducible assumption) | (with_reducible exact Below.refl _ _) | (with_reducible refine below_wov ?_ ?_ _) | (with_reducible refine below_drewN ?_ _) | (with_reducible refine Below.drew ?_) | (with_reducible refine Below.alloc ?_ ?_ _) | (with_reducible refine Below.setCell ?_ ?_ _) | (with_reducible exact Nat.le_refl _) | omega | (simp only [World.size_alloc, World.size_setCell, World.size_drew, Wov_size, World.heap_drewN]; omega))))

theorem cell_four_new (w : World) (a b c d : Value) (t : TypeId) : (w.alloc (.cells #[a, b, c, d] t)).cell? ⟨w.heap.size, 0, none⟩ = some a ∧ (w.alloc (.cells #[a, b, c, d] t)).cell? ⟨w.heap.size, 1, none⟩ = some b ∧ (w.alloc (.cells #[a, b, c, d] t)).cell? ⟨w.heap.size, 2, none⟩ = some c ∧ (w.alloc (.cells #[a, b, c, d] t)).cell? ⟨w.heap.size, 3, none⟩ = some d := by
  simp [go_sem]

set_option maxRecDepth 10000 in
set_option maxHeartbeats 4000000 in
theorem between_any (n : Int) (p : Option Addr) (N cap : Nat) (f : Nat → Int) (i lo : Int) (ls : Bool) (hi : Int) (hs op : Bool) (w : World) (hn : fits64 n) (hS : SlP w p N f) (hF : Fits N f) (hN : N ≤ 1000000) (hlo : fits64 lo) (hhi : fits64 hi) :
    Calls Try.prog 41 #[.agg #[.int .i64 n, .slice p N cap], .int .i64 i, .agg #[.int .i64 lo, .bool ls, .int .i64 hi, .bool hs, .bool op]] w (matC w (betweenM n N f i lo ls hi hs op).n (betweenM n N f i lo ls hi hs op).N (betweenM n N f i lo ls hi hs op).f (betweenM n N f i lo ls hi hs op).e) := by
  have CK : Hid (∀ w', Below w.heap.size w w' → Calls Try.prog 35 #[.agg #[.int .i64 n, .slice p N cap]] w' (Gives w' (.int .i64 (rcode (okD n N f))))) := fun w' hb =>
    dbmCheck_any n p N cap f w' hn (hS.below hb) hF (by omega)
  have KI := Lib.hid (fun w' => clock_any n i p N cap w')
  have SD := Lib.hid (fun w' => sides_any lo ls hi hs op w' hlo hhi)
  obtain ⟨r, hr⟩ : ∃ r, r = betweenM n N f i lo ls hi hs op := ⟨_, rfl⟩
  rw [← hr]
  unfold betweenM at hr
  cases hok : okD n N f
  · have R : Hid (r = errM 8) := by show _ = _; rw [hr, hok]; rfl
    rw [hok] at CK
    simp only [rcode, if_true, Bool.false_eq_true, if_false] at CK
    clear hr hok hS hF KI SD
    go_enter Try.func41, Try.ntmps41
    go_wp2_with (fail)
    refine (CK.out _ (by (repeat' (first | (with_reducible assumption) | (with_reducible exact Below.refl _ _) | (with_reducible refine below_wov ?_ ?_ _) | (with_reducible refine below_drewN ?_ _) | (with_reducible refine Below.drew ?_) | (with_reducible refine Below.alloc ?_ ?_ _) | (with_reducible refine Below.setCell ?_ ?_ _) | (with_reducible exact Nat.le_refl _) | omega | (simp only [World.size_alloc, World.size_setCell, World.size_drew, Wov_size, World.heap_drewN]; omega))))).mono ?_; rintro e w' ⟨rfl, p1, rfl⟩
    go_wp2
    go_returns
    rw [R.out]
    exact matC_err rfl (by (repeat' (first | (with_reducible assumption) | (with_reducible exact Below.refl _ _) | (with_reducible refine below_wov ?_ ?_ _) | (with_reducible refine below_drewN ?_ _) | (with_reducible refine Below.drew ?_) | (with_reducible refine Below.alloc ?_ ?_ _) | (with_reducible refine Below.setCell ?_ ?_ _) | (with_reducible exact Nat.le_refl _) | omega | (simp only [World.size_alloc, World.size_setCell, World.size_drew, Wov_size, World.heap_drewN]; omega))))
  · rw [hok] at CK
    rw [hok, if_pos rfl] at hr
    simp only [rcode, if_true, Bool.false_eq_true, if_false] at CK
    by_cases hi' : 0 ≤ i ∧ i < n
    · rw [decide_eq_true hi'] at KI
      rw [if_pos hi'] at hr
      cases hm : spanB lo hi hs op
      · have R : Hid (r = errM 8) := by show _ = _; rw [hr, hm]; rfl
        unfold sidesPost at SD
        rw [hm] at SD
        clear hr hok hS hF hm hi'
        go_enter Try.func41, Try.ntmps41
        go_wp2_with (fail)
        refine (CK.out _ (by (repeat' (first | (with_reducible assumption) | (with_reducible exact Below.refl _ _) | (with_reducible refine below_wov ?_ ?_ _) | (with_reducible refine below_drewN ?_ _) | (with_reducible refine Below.drew ?_) | (with_reducible refine Below.alloc ?_ ?_ _) | (with_reducible refine Below.setCell ?_ ?_ _) | (with_reducible exact Nat.le_refl _) | omega | (simp only [World.size_alloc, World.size_setCell, World.size_drew, Wov_size, World.heap_drewN]; omega))))).mono ?_; rintro e w' ⟨rfl, p1, rfl⟩
        go_wp2_with (fail)
        refine (KI.out _).mono ?_; rintro e w' ⟨rfl, p2, rfl⟩
        go_wp2_with (fail)
        refine (SD.out _).mono ?_; rintro e w' ⟨x1, x2, rfl, _, p3, rfl⟩
        go_wp2
        go_returns
        rw [R.out]
        exact matC_err rfl (by (repeat' (first | (with_reducible assumption) | (with_reducible exact Below.refl _ _) | (with_reducible refine below_wov ?_ ?_ _) | (with_reducible refine below_drewN ?_ _) | (with_reducible refine Below.drew ?_) | (with_reducible refine Below.alloc ?_ ?_ _) | (with_reducible refine Below.setCell ?_ ?_ _) | (with_reducible exact Nat.le_refl _) | omega | (simp only [World.size_alloc, World.size_setCell, World.size_drew, Wov_size, World.heap_drewN]; omega))))
      · rw [hm, if_pos rfl] at hr
        have bA := belowB_may (ls := ls) hm
        have bB := aboveB_may hm
        unfold sidesPost at SD
        rw [hm] at SD
        obtain ⟨m, rfl, rfl, hm0, hm4⟩ := okD_form hok
        obtain ⟨a, rfl⟩ : ∃ a : Nat, i = (a : Int) := ⟨i.toNat, by omega⟩
        have hlt := place_lt (n := m) (i := a) (j := 0) (by omega) (by omega)
        have hlt0 := place_lt (n := m) (i := 0) (j := a) (by omega) (by omega)
        have hmm : m * m ≤ 4 * 4 := Nat.mul_le_mul hm4 hm4
        obtain ⟨q, hq⟩ : ∃ q : Nat, q = a * m := ⟨_, rfl⟩
        have hqm : (a : Int) * (m : Int) = (q : Int) := by rw [hq]; push_cast; rfl
        rw [hqm] at hr
        rw [← hq] at hlt
        have h3 : IntKind.i64.wrap (q : Int) = (q : Int) := by rw [IntKind.wrap_i64]; omega
        obtain ⟨b1, hb1⟩ : ∃ b, b = belowB lo ls := ⟨_, rfl⟩
        obtain ⟨b2, hb2⟩ : ∃ b, b = aboveB hi hs op := ⟨_, rfl⟩
        rw [← hb1, ← hb2] at hr
        rw [← hb1] at bA
        rw [← hb2] at bB
        have SD2 : Hid (∀ w', Calls Try.prog 103 #[.agg #[.int .i64 lo, .bool ls, .int .i64 hi, .bool hs, .bool op]] w' (Gives w' (.tuple #[.int .i64 b1, .int .i64 b2, .bool true]))) := fun w' => (SD.out w').mono fun e W ⟨x1, x2, he, hx, hq⟩ => by
          obtain ⟨e1, e2⟩ := hx rfl
          exact ⟨by rw [he, e1, e2, hb1, hb2], hq⟩
        have WT : Hid (∀ W B, Below w.heap.size w W → W.cell? ⟨B, 0, none⟩ = some (.int .i64 (a : Int)) → W.cell? ⟨B, 1, none⟩ = some (.int .i64 b1) → W.cell? ⟨B, 2, none⟩ = some (.int .i64 (q : Int)) → W.cell? ⟨B, 3, none⟩ = some (.int .i64 b2) → B < W.heap.size →
            Calls Try.prog 101 #[.agg #[.int .i64 m, .slice p (m * m) cap], .slice (some ⟨B, 0, none⟩) 2 2] W (matC W r.n r.N r.f r.e)) := fun W B hbw k0 k1 k2 k3 hB => by
          rw [hr]
          refine with_any m p (m * m) cap f (some ⟨B, 0, none⟩) 2 2 (fun x => if x = 0 then ((a : Int), b1) else ((q : Int), b2)) _ W hn (hS.below hbw) hF (by omega) (by omega) (.inr ⟨B, 0, rfl, hB, fun x hx => ?_⟩) (by omega) (fun k hk => ?_) (fun x hx => rfl) (fun x hx => ?_)
          · rcases x with _ | _ | x
            · exact ⟨k0, k1⟩
            · exact ⟨k2, k3⟩
            · omega
          · rcases k with _ | k
            · exact ⟨a, rfl, by omega⟩
            · exact ⟨q, rfl, by omega⟩
          · have g1 : ∀ y, y < m * m → fits64 (moreAt f ((a : Int)).toNat b1 y) := fun y hy => by
              unfold moreAt upd
              split
              · rename_i e; subst e; exact fits_min (hF _ hy) (mayB_fits bA)
              · exact hF y hy
            unfold moreAt upd
            split
            · rename_i e; subst e; exact fits_min (g1 _ hx) (mayB_fits bB)
            · exact g1 x hx
        clear hr hok hS hF hm hi' hq SD hb1 hb2 bA bB
        go_enter Try.func41, Try.ntmps41
        go_wp2_with (fail)
        refine (CK.out _ (by (repeat' (first | (with_reducible assumption) | (with_reducible exact Below.refl _ _) | (with_reducible refine below_wov ?_ ?_ _) | (with_reducible refine below_drewN ?_ _) | (with_reducible refine Below.drew ?_) | (with_reducible refine Below.alloc ?_ ?_ _) | (with_reducible refine Below.setCell ?_ ?_ _) | (with_reducible exact Nat.le_refl _) | omega | (simp only [World.size_alloc, World.size_setCell, World.size_drew, Wov_size, World.heap_drewN]; omega))))).mono ?_; rintro e w' ⟨rfl, p1, rfl⟩
        go_wp2_with (fail)
        refine (KI.out _).mono ?_; rintro e w' ⟨rfl, p2, rfl⟩
        go_wp2_with (fail)
        refine (SD2.out _).mono ?_; rintro e w' ⟨rfl, p3, rfl⟩
        go_wp2_with (fail)
        refine (WT.out _ _ (by (repeat' (first | (with_reducible assumption) | (with_reducible exact Below.refl _ _) | (with_reducible refine below_wov ?_ ?_ _) | (with_reducible refine below_drewN ?_ _) | (with_reducible refine Below.drew ?_) | (with_reducible refine Below.alloc ?_ ?_ _) | (with_reducible refine Below.setCell ?_ ?_ _) | (with_reducible exact Nat.le_refl _) | omega | (simp only [World.size_alloc, World.size_setCell, World.size_drew, Wov_size, World.heap_drewN]; omega)))) (by simp [go_sem]) (by simp [go_sem]) (by simp [go_sem]) (by simp [go_sem]) (by simp only [World.size_alloc, World.size_setCell, Wov_size, Array.size_append]; omega)).mono ?_; rintro e w' ⟨⟨p5, cap5, rfl, ho⟩, q5, rfl⟩
        have HO := Lib.hid ho
        clear ho
        go_wp2
        go_returns
        refine ⟨⟨p5, cap5, rfl, ?_⟩, Wov_of_below (by (repeat' (first | (with_reducible assumption) | (with_reducible exact Below.refl _ _) | (with_reducible refine below_wov ?_ ?_ _) | (with_reducible refine below_drewN ?_ _) | (with_reducible refine Below.drew ?_) | (with_reducible refine Below.alloc ?_ ?_ _) | (with_reducible refine Below.setCell ?_ ?_ _) | (with_reducible exact Nat.le_refl _) | omega | (simp only [World.size_alloc, World.size_setCell, World.size_drew, Wov_size, World.heap_drewN]; omega))))⟩
        exact (HO.out.chg (B := w.heap.size + 2) (by simp only [World.size_alloc, World.size_setCell, Wov_size, Array.size_append]; omega) ((Chg.set _ _ _ _).trans (Chg.set _ _ _ _))).later (by simp only [World.size_alloc, World.size_setCell, Wov_size, Array.size_append]; omega)
    · have R : Hid (r = errM 2) := by show _ = _; rw [hr, if_neg hi']
      rw [decide_eq_false hi'] at KI
      clear hr hok hS hF hi' SD
      go_enter Try.func41, Try.ntmps41
      go_wp2_with (fail)
      refine (CK.out _ (by (repeat' (first | (with_reducible assumption) | (with_reducible exact Below.refl _ _) | (with_reducible refine below_wov ?_ ?_ _) | (with_reducible refine below_drewN ?_ _) | (with_reducible refine Below.drew ?_) | (with_reducible refine Below.alloc ?_ ?_ _) | (with_reducible refine Below.setCell ?_ ?_ _) | (with_reducible exact Nat.le_refl _) | omega | (simp only [World.size_alloc, World.size_setCell, World.size_drew, Wov_size, World.heap_drewN]; omega))))).mono ?_; rintro e w' ⟨rfl, p1, rfl⟩
      go_wp2_with (fail)
      refine (KI.out _).mono ?_; rintro e w' ⟨rfl, p2, rfl⟩
      go_wp2
      go_returns
      rw [R.out]
      exact matC_err rfl (by (repeat' (first | (with_reducible assumption) | (with_reducible exact Below.refl _ _) | (with_reducible refine below_wov ?_ ?_ _) | (with_reducible refine below_drewN ?_ _) | (with_reducible refine Below.drew ?_) | (with_reducible refine Below.alloc ?_ ?_ _) | (with_reducible refine Below.setCell ?_ ?_ _) | (with_reducible exact Nat.le_refl _) | omega | (simp only [World.size_alloc, World.size_setCell, World.size_drew, Wov_size, World.heap_drewN]; omega))))
#print axioms between_any
end Go.Proofs.Ytlcbpckinjkfeaa
