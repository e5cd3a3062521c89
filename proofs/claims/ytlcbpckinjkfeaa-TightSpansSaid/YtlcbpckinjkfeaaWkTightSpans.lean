/- The law TightSpans (walk): times keep one with a clock in a span just if they keep it, and that time is in the span. No condition. -/
import Derived.Test.YtlcbpckinjkfeaaE9
import Derived.Test.YtlcbpckinjkfeaaE12
import Derived.Test.YtlcbpckinjkfeaaD22
import Derived.Test.YtlcbpckinjkfeaaM6
namespace Go.Proofs.Ytlcbpckinjkfeaa.tightSpans
open Go.ChangeShapes Go.WideShapes Go.ChangeAt Go.RowKit
set_option linter.unusedVariables false
set_option linter.unusedSimpArgs false
attribute [local go_sem] Nat.add_assoc Nat.add_lt_add_iff_left lit_lt_add

/-- A fraction at a place. -/
structure PairAt (W : World) (Z k : Nat) (u v : Int) : Prop where
  lt : Z < W.heap.size
  c0 : W.cell? ⟨Z, k, none⟩ = some (.int .i64 u)
  c1 : W.cell? ⟨Z, k + 1, none⟩ = some (.int .i64 v)
theorem PairAt.below {W W' : World} {Z k : Nat} {u v : Int} (h : PairAt W Z k u v) (hb : Below W.heap.size W W') : PairAt W' Z k u v :=
  ⟨Nat.lt_of_lt_of_le h.lt hb.size, (hb.cell (p := ⟨Z, k, none⟩) h.lt).trans h.c0, (hb.cell (p := ⟨Z, k + 1, none⟩) h.lt).trans h.c1⟩
theorem tm_fits {M : Nat} {T : Nat → Int × Int} (h : FitsR M T) : ∀ x, x < M + 1 → fits64 (tm T x).1 ∧ fits64 (tm T x).2
  | 0, _ => ⟨(by decide : fits64 0), (by decide : fits64 1)⟩
  | x + 1, hx => h x (by omega)
theorem of_whole {n : Int} (h1 : -288230376151711744 ≤ n) (h2 : n ≤ 288230376151711744) : Pure Try.prog 46 #[.int .i64 n, .int .i64 1] (.tuple #[.agg #[.int .i64 n, .int .i64 1], .int .i64 0]) := by
  have := of_any n 1 (by omega) (by omega) (by omega)
  rw [ofR_one, if_pos (by omega)] at this
  exact this
theorem cmp_three (n1 d1 n2 d2 : Int) : cmpR n1 d1 n2 d2 = -1 ∨ cmpR n1 d1 n2 d2 = 0 ∨ cmpR n1 d1 n2 d2 = 1 := by unfold cmpR sgn3; (repeat' split) <;> simp
theorem cmp_low {n a b : Int} (h1 : -288230376151711744 ≤ n) (h2 : n ≤ 288230376151711744) (fa : fits64 a) (fb : fits64 b) (ok : okRat a b = true) : Pure Try.prog 23 #[.agg #[.int .i64 n, .int .i64 1], .agg #[.int .i64 a, .int .i64 b]] (.tuple #[.int .i64 (cmpR n 1 a b), .int .i64 0]) := by
  have o1 : okRat n 1 = true := by rw [okRat_one]; simp; omega
  have := ratCmp_any n 1 a b (by omega) (by omega) (by omega) (by omega) fa.1 fa.2 fb.1 fb.2
  rw [cmpPR, o1, ok] at this
  exact this
theorem cmp_high {n a b : Int} (h1 : -288230376151711744 ≤ n) (h2 : n ≤ 288230376151711744) (fa : fits64 a) (fb : fits64 b) (ok : okRat a b = true) : Pure Try.prog 23 #[.agg #[.int .i64 a, .int .i64 b], .agg #[.int .i64 n, .int .i64 1]] (.tuple #[.int .i64 (cmpR a b n 1), .int .i64 0]) := by
  have o1 : okRat n 1 = true := by rw [okRat_one]; simp; omega
  have := ratCmp_any a b n 1 fa.1 fa.2 fb.1 fb.2 (by omega) (by omega) (by omega) (by omega)
  rw [cmpPR, ok, o1] at this
  exact this

set_option maxRecDepth 100000 in
set_option maxHeartbeats 16000000 in
theorem walk (na : Int) (pa : Option Addr) (Na ca : Nat) (fa : Nat → Int) (wna : fits64 na) (i : Int) (wi : (Lit.int .i64 i).wf = true) (lo : Int) (ls : Bool) (hi : Int) (hs op : Bool) (wlo : fits64 lo) (whi : fits64 hi) (q : Option Addr) (M cq : Nat) (T : Nat → Int × Int) (w : World) (hSa : SlP w pa Na fa) (hFa : Fits Na fa) (hNa : Na ≤ maxLen) (hST : SlR w q M T) (hFT : FitsR M T) (hM : M ≤ maxLen) :
    Calls Try.prog 9 #[.agg #[.int .i64 na, .slice pa Na ca], .int .i64 i, .agg #[.int .i64 lo, .bool ls, .int .i64 hi, .bool hs, .bool op], .slice q M cq] w (Gives w (.bool true)) := by
  have HA := Lib.hid alive5
  unfold maxLen at hNa hM
  by_cases hbig : 1000 < Na ∨ 100 < M
  · clear hSa hFa hST hFT
    by_cases hb1 : 1000 < Na
    · go_enter Try.func9, Try.ntmps9
      go_wp2_with (fail)
      refine (HA.out _).mono ?_; rintro e w' ⟨rfl, p1, rfl⟩
      go_wp2
      all_goals
        go_ret
        exact gives_bool rfl (by (repeat' (first | (with_reducible assumption) | (with_reducible exact Below.refl _ _) | (with_reducible refine below_wov ?_ ?_ _) | (with_reducible refine below_drewN ?_ _) | (with_reducible refine Below.drew ?_) | (with_reducible refine Below.alloc ?_ ?_ _) | (with_reducible refine Below.setCell ?_ ?_ _) | (with_reducible exact Nat.le_refl _) | omega | (simp only [World.size_alloc, World.size_setCell, World.size_drew, Wov_size, World.heap_drewN]; omega))))
    · have hb3 : 100 < M := by omega
      go_enter Try.func9, Try.ntmps9
      go_wp2_with (fail)
      refine (HA.out _).mono ?_; rintro e w' ⟨rfl, p1, rfl⟩
      go_wp2
      all_goals
        go_ret
        exact gives_bool rfl (by (repeat' (first | (with_reducible assumption) | (with_reducible exact Below.refl _ _) | (with_reducible refine below_wov ?_ ?_ _) | (with_reducible refine below_drewN ?_ _) | (with_reducible refine Below.drew ?_) | (with_reducible refine Below.alloc ?_ ?_ _) | (with_reducible refine Below.setCell ?_ ?_ _) | (with_reducible exact Nat.le_refl _) | omega | (simp only [World.size_alloc, World.size_setCell, World.size_drew, Wov_size, World.heap_drewN]; omega))))
  · have hNa3 : Na ≤ 1000 := by omega
    have hM3 : M ≤ 100 := by omega
    have hM2 : M ≤ 1000000 := by omega
    obtain ⟨⟨one, e0⟩, h_0⟩ : ∃ r, r = keepsD na Na fa M T := ⟨_, rfl⟩
    obtain ⟨⟨y1, Y1, h1, f0⟩, h_5⟩ : ∃ r, r = betweenM na Na fa i lo ls hi hs op := ⟨_, rfl⟩
    obtain ⟨s1, hs1⟩ : ∃ s, s = okD y1 Y1 h1 := ⟨_, rfl⟩
    obtain ⟨L, hL⟩ : ∃ L, M + 1 = L := ⟨_, rfl⟩
    have HL := Lib.hid hL
    have o5 : MRok ⟨y1, Y1, h1, f0⟩ := by rw [h_5]; exact betweenM_ok _ _ _ _ _ _ _ _ _
    have KE : Hid (∀ W c, SlP W pa Na fa → SlR W q M T → Calls Try.prog 31 #[.agg #[.int .i64 na, .slice pa Na c], .slice q M cq] W (Gives W (.tuple #[.bool one, .int .i64 e0]))) := fun W c h g => by
      have := keepsD_any na Na pa c fa q M cq T W wna h hFa (by omega) g hFT (by omega)
      rw [← h_0] at this; exact this
    have BT : Hid (∀ W, SlP W pa Na fa → Calls Try.prog 41 #[.agg #[.int .i64 na, .slice pa Na ca], .int .i64 i, .agg #[.int .i64 lo, .bool ls, .int .i64 hi, .bool hs, .bool op]] W (matC W y1 Y1 h1 f0)) := fun W h => by
      have := between_any na pa Na ca fa i lo ls hi hs op W wna h hFa (by omega) wlo whi
      rwa [← h_5] at this
    have CC : Hid (∀ W p c, SlP W p Y1 h1 → Calls Try.prog 35 #[.agg #[.int .i64 y1, .slice p Y1 c]] W (Gives W (.int .i64 (rcode s1)))) := fun W p c h => by
      have := dbmCheck_any y1 p Y1 c h1 W o5.n h o5.f (by have := o5.N; simp only at this; omega)
      rwa [← hs1] at this
    have KCC : Hid (∀ b, keepsD y1 Y1 h1 M T = (b, 0) → Hid (∀ W p c, SlP W p Y1 h1 → SlR W q M T → Calls Try.prog 31 #[.agg #[.int .i64 y1, .slice p Y1 c], .slice q M cq] W (Gives W (.tuple #[.bool b, .int .i64 0])))) := fun b hb W p c h g => by
      have := keepsD_any y1 Y1 p c h1 q M cq T W o5.n h o5.f (by have := o5.N; simp only at this; omega) g hFT (by omega)
      rw [hb] at this; exact this
    have SK : Hid (e0 = 0 → (f0 = 0 ∨ f0 = 6) → ∃ (a' : Nat) (u1 u2 n0 m0 : Int) (inB : Bool), i = (a' : Int) ∧ a' < M + 1 ∧ u1 = (tm T a').1 ∧ u2 = (tm T a').2 ∧ (n0 = -1 ∨ n0 = 0 ∨ n0 = 1) ∧ (m0 = -1 ∨ m0 = 0 ∨ m0 = 1) ∧ inB = (cmpIn n0 ls && (op || cmpIn m0 hs)) ∧
        Pure Try.prog 46 #[.int .i64 lo, .int .i64 1] (.tuple #[.agg #[.int .i64 lo, .int .i64 1], .int .i64 0]) ∧
        Pure Try.prog 46 #[.int .i64 hi, .int .i64 1] (.tuple #[.agg #[.int .i64 hi, .int .i64 1], .int .i64 0]) ∧
        Pure Try.prog 23 #[.agg #[.int .i64 lo, .int .i64 1], .agg #[.int .i64 u1, .int .i64 u2]] (.tuple #[.int .i64 n0, .int .i64 0]) ∧
        Pure Try.prog 23 #[.agg #[.int .i64 u1, .int .i64 u2], .agg #[.int .i64 hi, .int .i64 1]] (.tuple #[.int .i64 m0, .int .i64 0]) ∧
        (f0 = 6 → (one && inB) = false) ∧ (s1 = true → f0 = 0 → keepsD y1 Y1 h1 M T = (one && inB, 0))) := fun h g => by
      subst h
      obtain ⟨a, ea, ha, hsp, hok, g6, g0⟩ := span_kept h_5 h_0.symm g
      obtain ⟨b1, b2, b3, b4, b5⟩ := spanB_bd hsp
      have hhi : -288230376151711744 ≤ hi := by
        cases hop : op
        · have := b5 hop; omega
        · have := (b4 hop).1; omega
      obtain ⟨fu, fv⟩ := tm_fits hFT a ha
      exact ⟨a, (tm T a).1, (tm T a).2, _, _, _, ea, ha, rfl, rfl, cmp_three lo 1 (tm T a).1 (tm T a).2, cmp_three (tm T a).1 (tm T a).2 hi 1, rfl, of_whole b1 b2, of_whole hhi b3, cmp_low b1 b2 fu fv hok, cmp_high hhi b3 fu fv hok, g6, fun hs => g0 (by rw [← hs]; exact hs1.symm)⟩
    have FK : Hid ((f0 = 0 ∨ f0 = 6) ∨ (f0 ≠ 0 ∧ f0 ≠ 6)) := by show _ ∨ _; omega
    have SA := Lib.hid hSa
    have ST := Lib.hid hST
    clear h_0 h_5 hs1 o5 hSa hFa hST hFT hbig wna wi wlo whi hL
    go_enter Try.func9, Try.ntmps9
    go_wp2_with (fail)
    refine calls_world (fun W => Below w.heap.size w W ∧ BoxM W w.heap.size na pa Na ca fa ∧ BoxS W (w.heap.size + 1) lo ls hi hs op ∧ SlR W q M T) ⟨by (repeat' (first | (with_reducible assumption) | (with_reducible exact Below.refl _ _) | (with_reducible refine below_wov ?_ ?_ _) | (with_reducible refine below_drewN ?_ _) | (with_reducible refine Below.drew ?_) | (with_reducible refine Below.alloc ?_ ?_ _) | (with_reducible refine Below.setCell ?_ ?_ _) | (with_reducible exact Nat.le_refl _) | omega | (simp only [World.size_alloc, World.size_setCell, World.size_drew, Wov_size, World.heap_drewN]; omega))), (BoxM.new (W := w) (t := 39) (SA.out) (by simp)).below (by (repeat' (first | (with_reducible assumption) | (with_reducible exact Below.refl _ _) | (with_reducible refine below_wov ?_ ?_ _) | (with_reducible refine below_drewN ?_ _) | (with_reducible refine Below.drew ?_) | (with_reducible refine Below.alloc ?_ ?_ _) | (with_reducible refine Below.setCell ?_ ?_ _) | (with_reducible exact Nat.le_refl _) | omega | (simp only [World.size_alloc, World.size_setCell, World.size_drew, Wov_size, World.heap_drewN]; omega)))), BoxS.new (W := (World.alloc w (.cells #[.int .i64 na, .slice pa Na ca] 39))) (t := 58) (by simp), ST.out.below (by (repeat' (first | (with_reducible assumption) | (with_reducible exact Below.refl _ _) | (with_reducible refine below_wov ?_ ?_ _) | (with_reducible refine below_drewN ?_ _) | (with_reducible refine Below.drew ?_) | (with_reducible refine Below.alloc ?_ ?_ _) | (with_reducible refine Below.setCell ?_ ?_ _) | (with_reducible exact Nat.le_refl _) | omega | (simp only [World.size_alloc, World.size_setCell, World.size_drew, Wov_size, World.heap_drewN]; omega))))⟩ ?_
    rintro W1 ⟨hb1, m1_0, m1_1, m1_2⟩
    have f1_0_lt := m1_0.lt
    have f1_0_c0 := m1_0.c0
    have f1_0_c1 := m1_0.c1
    have f1_1_lt := m1_1.lt
    have f1_1_c0 := m1_1.c0
    have f1_1_c1 := m1_1.c1
    have f1_1_c2 := m1_1.c2
    have f1_1_c3 := m1_1.c3
    have f1_1_c4 := m1_1.c4
    refine (HA.out _).mono ?_; rintro e w' ⟨rfl, q0, rfl⟩
    go_wp2_with (fail)
    refine calls_world (fun W => Below w.heap.size w W ∧ BoxM W w.heap.size na pa Na ca fa ∧ BoxS W (w.heap.size + 1) lo ls hi hs op ∧ SlR W q M T) ⟨by (repeat' (first | (with_reducible assumption) | (with_reducible exact Below.refl _ _) | (with_reducible refine below_wov ?_ ?_ _) | (with_reducible refine below_drewN ?_ _) | (with_reducible refine Below.drew ?_) | (with_reducible refine Below.alloc ?_ ?_ _) | (with_reducible refine Below.setCell ?_ ?_ _) | (with_reducible exact Nat.le_refl _) | omega | (simp only [World.size_alloc, World.size_setCell, World.size_drew, Wov_size, World.heap_drewN]; omega))), m1_0.below (by (repeat' (first | (with_reducible assumption) | (with_reducible exact Below.refl _ _) | (with_reducible refine below_wov ?_ ?_ _) | (with_reducible refine below_drewN ?_ _) | (with_reducible refine Below.drew ?_) | (with_reducible refine Below.alloc ?_ ?_ _) | (with_reducible refine Below.setCell ?_ ?_ _) | (with_reducible exact Nat.le_refl _) | omega | (simp only [World.size_alloc, World.size_setCell, World.size_drew, Wov_size, World.heap_drewN]; omega)))), m1_1.below (by (repeat' (first | (with_reducible assumption) | (with_reducible exact Below.refl _ _) | (with_reducible refine below_wov ?_ ?_ _) | (with_reducible refine below_drewN ?_ _) | (with_reducible refine Below.drew ?_) | (with_reducible refine Below.alloc ?_ ?_ _) | (with_reducible refine Below.setCell ?_ ?_ _) | (with_reducible exact Nat.le_refl _) | omega | (simp only [World.size_alloc, World.size_setCell, World.size_drew, Wov_size, World.heap_drewN]; omega)))), m1_2.below (by (repeat' (first | (with_reducible assumption) | (with_reducible exact Below.refl _ _) | (with_reducible refine below_wov ?_ ?_ _) | (with_reducible refine below_drewN ?_ _) | (with_reducible refine Below.drew ?_) | (with_reducible refine Below.alloc ?_ ?_ _) | (with_reducible refine Below.setCell ?_ ?_ _) | (with_reducible exact Nat.le_refl _) | omega | (simp only [World.size_alloc, World.size_setCell, World.size_drew, Wov_size, World.heap_drewN]; omega))))⟩ ?_
    rintro W2 ⟨hb2, m2_0, m2_1, m2_2⟩
    clear hb1 f1_0_lt f1_0_c0 f1_0_c1 f1_1_lt f1_1_c0 f1_1_c1 f1_1_c2 f1_1_c3 f1_1_c4 m1_0 m1_1 m1_2
    have f2_0_lt := m2_0.lt
    have f2_0_c0 := m2_0.c0
    have f2_0_c1 := m2_0.c1
    have f2_1_lt := m2_1.lt
    have f2_1_c0 := m2_1.c0
    have f2_1_c1 := m2_1.c1
    have f2_1_c2 := m2_1.c2
    have f2_1_c3 := m2_1.c3
    have f2_1_c4 := m2_1.c4
    refine (KE.out _ _ m2_0.sl m2_2).mono ?_; rintro e w' ⟨rfl, q1, rfl⟩
    go_wp2_with (fail)
    refine calls_world (fun W => Below w.heap.size w W ∧ BoxM W w.heap.size na pa Na ca fa ∧ BoxS W (w.heap.size + 1) lo ls hi hs op ∧ SlR W q M T) ⟨by (repeat' (first | (with_reducible assumption) | (with_reducible exact Below.refl _ _) | (with_reducible refine below_wov ?_ ?_ _) | (with_reducible refine below_drewN ?_ _) | (with_reducible refine Below.drew ?_) | (with_reducible refine Below.alloc ?_ ?_ _) | (with_reducible refine Below.setCell ?_ ?_ _) | (with_reducible exact Nat.le_refl _) | omega | (simp only [World.size_alloc, World.size_setCell, World.size_drew, Wov_size, World.heap_drewN]; omega))), m2_0.below (by (repeat' (first | (with_reducible assumption) | (with_reducible exact Below.refl _ _) | (with_reducible refine below_wov ?_ ?_ _) | (with_reducible refine below_drewN ?_ _) | (with_reducible refine Below.drew ?_) | (with_reducible refine Below.alloc ?_ ?_ _) | (with_reducible refine Below.setCell ?_ ?_ _) | (with_reducible exact Nat.le_refl _) | omega | (simp only [World.size_alloc, World.size_setCell, World.size_drew, Wov_size, World.heap_drewN]; omega)))), m2_1.below (by (repeat' (first | (with_reducible assumption) | (with_reducible exact Below.refl _ _) | (with_reducible refine below_wov ?_ ?_ _) | (with_reducible refine below_drewN ?_ _) | (with_reducible refine Below.drew ?_) | (with_reducible refine Below.alloc ?_ ?_ _) | (with_reducible refine Below.setCell ?_ ?_ _) | (with_reducible exact Nat.le_refl _) | omega | (simp only [World.size_alloc, World.size_setCell, World.size_drew, Wov_size, World.heap_drewN]; omega)))), m2_2.below (by (repeat' (first | (with_reducible assumption) | (with_reducible exact Below.refl _ _) | (with_reducible refine below_wov ?_ ?_ _) | (with_reducible refine below_drewN ?_ _) | (with_reducible refine Below.drew ?_) | (with_reducible refine Below.alloc ?_ ?_ _) | (with_reducible refine Below.setCell ?_ ?_ _) | (with_reducible exact Nat.le_refl _) | omega | (simp only [World.size_alloc, World.size_setCell, World.size_drew, Wov_size, World.heap_drewN]; omega))))⟩ ?_
    rintro W3 ⟨hb3, m3_0, m3_1, m3_2⟩
    clear hb2 f2_0_lt f2_0_c0 f2_0_c1 f2_1_lt f2_1_c0 f2_1_c1 f2_1_c2 f2_1_c3 f2_1_c4 m2_0 m2_1 m2_2
    have f3_0_lt := m3_0.lt
    have f3_0_c0 := m3_0.c0
    have f3_0_c1 := m3_0.c1
    have f3_1_lt := m3_1.lt
    have f3_1_c0 := m3_1.c0
    have f3_1_c1 := m3_1.c1
    have f3_1_c2 := m3_1.c2
    have f3_1_c3 := m3_1.c3
    have f3_1_c4 := m3_1.c4
    refine (BT.out _ m3_0.sl).mono ?_; rintro e w' ⟨⟨p1, c1, rfl, ho⟩, q2, rfl⟩
    have tp1 := ho.slp
    clear ho
    by_cases he : e0 = 0
    · skip
      subst he
      rcases FK.out with hf | ⟨hf, hf2⟩
      · skip
        obtain ⟨a', u1, u2, n0, m0, inB, rfl, ha, hu1, hu2, hn0, hm0, hin, OL, OH, CM1, CM2, h6, h0⟩ := SK.out (by simp) hf
        have OL := Lib.hid OL
        have OH := Lib.hid OH
        have CM1 := Lib.hid CM1
        have CM2 := Lib.hid CM2
        have HIN := Lib.hid hin
        have H6 := Lib.hid h6
        have H0 := Lib.hid h0
        have i1 : (0 : Int) ≤ (a' : Int) := by omega
        have i2 : (a' : Int) < (L : Int) := by have := HL.out; omega
        have HU1 := Lib.hid hu1
        have HU2 := Lib.hid hu2
        have HAL : Hid (a' < L) := by have := HL.out; show _ < _; omega
        clear hin h6 h0 hu1 hu2 ha SK FK
        rcases hf with rfl | rfl
        · skip
          go_wp2_with (at_builtin; refine wpList_all _ _ (by ((try simp only [World.size_alloc, Wov_size, Array.size_append]) <;> (try omega))) rfl _ _ rfl rfl rfl q M cq T rfl (m3_2.below (by (repeat' (first | (with_reducible assumption) | (with_reducible exact Below.refl _ _) | (with_reducible refine below_wov ?_ ?_ _) | (with_reducible refine below_drewN ?_ _) | (with_reducible refine Below.drew ?_) | (with_reducible refine Below.alloc ?_ ?_ _) | (with_reducible refine Below.setCell ?_ ?_ _) | (with_reducible exact Nat.le_refl _) | omega | (simp only [World.size_alloc, World.size_setCell, World.size_drew, Wov_size, World.heap_drewN]; omega))))) hM2 ?_; intro Z zc w1 hz0 hz1 hz2 hz3
                       have hbX : Below W3.heap.size W3 w1 := Below.trans (by (repeat' (first | (with_reducible assumption) | (with_reducible exact Below.refl _ _) | (with_reducible refine below_wov ?_ ?_ _) | (with_reducible refine below_drewN ?_ _) | (with_reducible refine Below.drew ?_) | (with_reducible refine Below.alloc ?_ ?_ _) | (with_reducible refine Below.setCell ?_ ?_ _) | (with_reducible exact Nat.le_refl _) | omega | (simp only [World.size_alloc, World.size_setCell, World.size_drew, Wov_size, World.heap_drewN]; omega)))) (hz0.mono (by ((try simp only [World.size_alloc, Wov_size, Array.size_append]) <;> (try omega))))
                       have hbw1 : Below w.heap.size w w1 := hb3.trans (hbX.mono hb3.size)
                       have tA : BoxM w1 (W3.heap.size + q2.bl.size) y1 p1 Y1 c1 h1 := (BoxM.new (W := Wov W3 q2) (t := 39) tp1 (by simp [Wov_size])).below (Below.trans (by (repeat' (first | (with_reducible assumption) | (with_reducible exact Below.refl _ _) | (with_reducible refine below_wov ?_ ?_ _) | (with_reducible refine below_drewN ?_ _) | (with_reducible refine Below.drew ?_) | (with_reducible refine Below.alloc ?_ ?_ _) | (with_reducible refine Below.setCell ?_ ?_ _) | (with_reducible exact Nat.le_refl _) | omega | (simp only [World.size_alloc, World.size_setCell, World.size_drew, Wov_size, World.heap_drewN]; omega)))) (hz0.mono (by ((try simp only [World.size_alloc, Wov_size, Array.size_append]) <;> (try omega)))))
                       have x0 := (hbX.cell (p := ⟨w.heap.size + 1, 0, none⟩) f3_1_lt).trans f3_1_c0
                       have t9 : PairAt w1 Z (a' * 2) u1 u2 := by
                         have := hz3 a' (by have := HAL.out; have := HL.out; omega)
                         rw [← HU1.out, ← HU2.out] at this
                         exact ⟨hz2, this.1, this.2⟩
                       rw [HL.out]
                       clear hz0 hz1 hz2 hz3)
          obtain ⟨A1, hA1⟩ : ∃ A, W3.heap.size + q2.bl.size = A := ⟨_, rfl⟩
          rw [hA1] at tA
          rw [hA1]
          refine calls_world (fun W => Below w.heap.size w W ∧ BoxM W w.heap.size na pa Na ca fa ∧ BoxS W (w.heap.size + 1) lo ls hi hs op ∧ SlR W q M T ∧ BoxM W A1 y1 p1 Y1 c1 h1 ∧ PairAt W Z (a' * 2) u1 u2) ⟨hbw1, m3_0.below hbX, m3_1.below hbX, m3_2.below hbX, tA, t9⟩ ?_
          rintro W4 ⟨hb4, m4_0, m4_1, m4_2, m4_3, m4_4⟩
          clear hb3 f3_0_lt f3_0_c0 f3_0_c1 f3_1_lt f3_1_c0 f3_1_c1 f3_1_c2 f3_1_c3 f3_1_c4 m3_0 m3_1 m3_2
          have f4_0_lt := m4_0.lt
          have f4_0_c0 := m4_0.c0
          have f4_0_c1 := m4_0.c1
          have f4_1_lt := m4_1.lt
          have f4_1_c0 := m4_1.c0
          have f4_1_c1 := m4_1.c1
          have f4_1_c2 := m4_1.c2
          have f4_1_c3 := m4_1.c3
          have f4_1_c4 := m4_1.c4
          have f4_3_lt := m4_3.lt
          have f4_3_c0 := m4_3.c0
          have f4_3_c1 := m4_3.c1
          have f4_4_lt := m4_4.lt
          have f4_4_c0 := m4_4.c0
          have f4_4_c1 := m4_4.c1
          clear hbX hbw1 tA x0 t9 tp1 hA1
          refine (OL.out _).mono ?_; rintro e w' ⟨rfl, q3, rfl⟩
          go_wp2_with (fail)
          obtain ⟨A2, hA2⟩ : ∃ A, W4.heap.size + q3.bl.size = A := ⟨_, rfl⟩
          rw [hA2]
          refine wp_world (fun W => Below w.heap.size w W ∧ BoxM W w.heap.size na pa Na ca fa ∧ BoxS W (w.heap.size + 1) lo ls hi hs op ∧ SlR W q M T ∧ BoxM W A1 y1 p1 Y1 c1 h1 ∧ PairAt W Z (a' * 2) u1 u2 ∧ BoxR W A2 lo 1) ⟨by (repeat' (first | (with_reducible assumption) | (with_reducible exact Below.refl _ _) | (with_reducible refine below_wov ?_ ?_ _) | (with_reducible refine below_drewN ?_ _) | (with_reducible refine Below.drew ?_) | (with_reducible refine Below.alloc ?_ ?_ _) | (with_reducible refine Below.setCell ?_ ?_ _) | (with_reducible exact Nat.le_refl _) | omega | (simp only [World.size_alloc, World.size_setCell, World.size_drew, Wov_size, World.heap_drewN]; omega))), m4_0.below (by (repeat' (first | (with_reducible assumption) | (with_reducible exact Below.refl _ _) | (with_reducible refine below_wov ?_ ?_ _) | (with_reducible refine below_drewN ?_ _) | (with_reducible refine Below.drew ?_) | (with_reducible refine Below.alloc ?_ ?_ _) | (with_reducible refine Below.setCell ?_ ?_ _) | (with_reducible exact Nat.le_refl _) | omega | (simp only [World.size_alloc, World.size_setCell, World.size_drew, Wov_size, World.heap_drewN]; omega)))), m4_1.below (by (repeat' (first | (with_reducible assumption) | (with_reducible exact Below.refl _ _) | (with_reducible refine below_wov ?_ ?_ _) | (with_reducible refine below_drewN ?_ _) | (with_reducible refine Below.drew ?_) | (with_reducible refine Below.alloc ?_ ?_ _) | (with_reducible refine Below.setCell ?_ ?_ _) | (with_reducible exact Nat.le_refl _) | omega | (simp only [World.size_alloc, World.size_setCell, World.size_drew, Wov_size, World.heap_drewN]; omega)))), m4_2.below (by (repeat' (first | (with_reducible assumption) | (with_reducible exact Below.refl _ _) | (with_reducible refine below_wov ?_ ?_ _) | (with_reducible refine below_drewN ?_ _) | (with_reducible refine Below.drew ?_) | (with_reducible refine Below.alloc ?_ ?_ _) | (with_reducible refine Below.setCell ?_ ?_ _) | (with_reducible exact Nat.le_refl _) | omega | (simp only [World.size_alloc, World.size_setCell, World.size_drew, Wov_size, World.heap_drewN]; omega)))), m4_3.below (by (repeat' (first | (with_reducible assumption) | (with_reducible exact Below.refl _ _) | (with_reducible refine below_wov ?_ ?_ _) | (with_reducible refine below_drewN ?_ _) | (with_reducible refine Below.drew ?_) | (with_reducible refine Below.alloc ?_ ?_ _) | (with_reducible refine Below.setCell ?_ ?_ _) | (with_reducible exact Nat.le_refl _) | omega | (simp only [World.size_alloc, World.size_setCell, World.size_drew, Wov_size, World.heap_drewN]; omega)))), m4_4.below (by (repeat' (first | (with_reducible assumption) | (with_reducible exact Below.refl _ _) | (with_reducible refine below_wov ?_ ?_ _) | (with_reducible refine below_drewN ?_ _) | (with_reducible refine Below.drew ?_) | (with_reducible refine Below.alloc ?_ ?_ _) | (with_reducible refine Below.setCell ?_ ?_ _) | (with_reducible exact Nat.le_refl _) | omega | (simp only [World.size_alloc, World.size_setCell, World.size_drew, Wov_size, World.heap_drewN]; omega)))), BoxR.new (by rw [← hA2]; (try simp only [Wov_size]))⟩ ?_
          rintro W5 ⟨hb5, m5_0, m5_1, m5_2, m5_3, m5_4, m5_5⟩
          clear hb4 f4_0_lt f4_0_c0 f4_0_c1 f4_1_lt f4_1_c0 f4_1_c1 f4_1_c2 f4_1_c3 f4_1_c4 f4_3_lt f4_3_c0 f4_3_c1 f4_4_lt f4_4_c0 f4_4_c1 m4_0 m4_1 m4_2 m4_3 m4_4
          have f5_0_lt := m5_0.lt
          have f5_0_c0 := m5_0.c0
          have f5_0_c1 := m5_0.c1
          have f5_1_lt := m5_1.lt
          have f5_1_c0 := m5_1.c0
          have f5_1_c1 := m5_1.c1
          have f5_1_c2 := m5_1.c2
          have f5_1_c3 := m5_1.c3
          have f5_1_c4 := m5_1.c4
          have f5_3_lt := m5_3.lt
          have f5_3_c0 := m5_3.c0
          have f5_3_c1 := m5_3.c1
          have f5_4_lt := m5_4.lt
          have f5_4_c0 := m5_4.c0
          have f5_4_c1 := m5_4.c1
          have f5_5_lt := m5_5.lt
          have f5_5_c0 := m5_5.c0
          have f5_5_c1 := m5_5.c1
          refine wp_region_wov (by kernel_rfl) (by kernel_rfl) ?_
          repeat (go_big_quiet_step ((go_at_call 23; (first | exact (CM1.out).at _ _ | exact (CM1.out).at2 _ _ _ | exact (CM1.out).at3 _ _ _ _ | exact (CM1.out).at4 _ _ _ _ _ | exact (CM1.out).at5 _ _ _ _ _ _ | exact (CM1.out).at6 _ _ _ _ _ _ _))))
          refine wpQuiet_nil ?_
          rintro _ ⟨pq, rfl⟩
          rcases hn0 with rfl | rfl | rfl
          · skip
            cases op
            · skip
              go_wp2_with (fail)
              refine calls_world (fun W => Below w.heap.size w W ∧ BoxM W w.heap.size na pa Na ca fa ∧ BoxS W (w.heap.size + 1) lo ls hi hs false ∧ SlR W q M T ∧ BoxM W A1 y1 p1 Y1 c1 h1 ∧ PairAt W Z (a' * 2) u1 u2) ⟨by (repeat' (first | (with_reducible assumption) | (with_reducible exact Below.refl _ _) | (with_reducible refine below_wov ?_ ?_ _) | (with_reducible refine below_drewN ?_ _) | (with_reducible refine Below.drew ?_) | (with_reducible refine Below.alloc ?_ ?_ _) | (with_reducible refine Below.setCell ?_ ?_ _) | (with_reducible exact Nat.le_refl _) | omega | (simp only [World.size_alloc, World.size_setCell, World.size_drew, Wov_size, World.heap_drewN]; omega))), m5_0.below (by (repeat' (first | (with_reducible assumption) | (with_reducible exact Below.refl _ _) | (with_reducible refine below_wov ?_ ?_ _) | (with_reducible refine below_drewN ?_ _) | (with_reducible refine Below.drew ?_) | (with_reducible refine Below.alloc ?_ ?_ _) | (with_reducible refine Below.setCell ?_ ?_ _) | (with_reducible exact Nat.le_refl _) | omega | (simp only [World.size_alloc, World.size_setCell, World.size_drew, Wov_size, World.heap_drewN]; omega)))), m5_1.below (by (repeat' (first | (with_reducible assumption) | (with_reducible exact Below.refl _ _) | (with_reducible refine below_wov ?_ ?_ _) | (with_reducible refine below_drewN ?_ _) | (with_reducible refine Below.drew ?_) | (with_reducible refine Below.alloc ?_ ?_ _) | (with_reducible refine Below.setCell ?_ ?_ _) | (with_reducible exact Nat.le_refl _) | omega | (simp only [World.size_alloc, World.size_setCell, World.size_drew, Wov_size, World.heap_drewN]; omega)))), m5_2.below (by (repeat' (first | (with_reducible assumption) | (with_reducible exact Below.refl _ _) | (with_reducible refine below_wov ?_ ?_ _) | (with_reducible refine below_drewN ?_ _) | (with_reducible refine Below.drew ?_) | (with_reducible refine Below.alloc ?_ ?_ _) | (with_reducible refine Below.setCell ?_ ?_ _) | (with_reducible exact Nat.le_refl _) | omega | (simp only [World.size_alloc, World.size_setCell, World.size_drew, Wov_size, World.heap_drewN]; omega)))), m5_3.below (by (repeat' (first | (with_reducible assumption) | (with_reducible exact Below.refl _ _) | (with_reducible refine below_wov ?_ ?_ _) | (with_reducible refine below_drewN ?_ _) | (with_reducible refine Below.drew ?_) | (with_reducible refine Below.alloc ?_ ?_ _) | (with_reducible refine Below.setCell ?_ ?_ _) | (with_reducible exact Nat.le_refl _) | omega | (simp only [World.size_alloc, World.size_setCell, World.size_drew, Wov_size, World.heap_drewN]; omega)))), m5_4.below (by (repeat' (first | (with_reducible assumption) | (with_reducible exact Below.refl _ _) | (with_reducible refine below_wov ?_ ?_ _) | (with_reducible refine below_drewN ?_ _) | (with_reducible refine Below.drew ?_) | (with_reducible refine Below.alloc ?_ ?_ _) | (with_reducible refine Below.setCell ?_ ?_ _) | (with_reducible exact Nat.le_refl _) | omega | (simp only [World.size_alloc, World.size_setCell, World.size_drew, Wov_size, World.heap_drewN]; omega))))⟩ ?_
              rintro W6 ⟨hb6, m6_0, m6_1, m6_2, m6_3, m6_4⟩
              clear hb5 f5_0_lt f5_0_c0 f5_0_c1 f5_1_lt f5_1_c0 f5_1_c1 f5_1_c2 f5_1_c3 f5_1_c4 f5_3_lt f5_3_c0 f5_3_c1 f5_4_lt f5_4_c0 f5_4_c1 f5_5_lt f5_5_c0 f5_5_c1 m5_0 m5_1 m5_2 m5_3 m5_4 m5_5
              have f6_0_lt := m6_0.lt
              have f6_0_c0 := m6_0.c0
              have f6_0_c1 := m6_0.c1
              have f6_1_lt := m6_1.lt
              have f6_1_c0 := m6_1.c0
              have f6_1_c1 := m6_1.c1
              have f6_1_c2 := m6_1.c2
              have f6_1_c3 := m6_1.c3
              have f6_1_c4 := m6_1.c4
              have f6_3_lt := m6_3.lt
              have f6_3_c0 := m6_3.c0
              have f6_3_c1 := m6_3.c1
              have f6_4_lt := m6_4.lt
              have f6_4_c0 := m6_4.c0
              have f6_4_c1 := m6_4.c1
              refine (OH.out _).mono ?_; rintro e w' ⟨rfl, q4, rfl⟩
              go_wp2_with (fail)
              obtain ⟨A3, hA3⟩ : ∃ A, W6.heap.size + q4.bl.size = A := ⟨_, rfl⟩
              rw [hA3]
              refine wp_world (fun W => Below w.heap.size w W ∧ BoxM W w.heap.size na pa Na ca fa ∧ BoxS W (w.heap.size + 1) lo ls hi hs false ∧ SlR W q M T ∧ BoxM W A1 y1 p1 Y1 c1 h1 ∧ PairAt W Z (a' * 2) u1 u2 ∧ BoxR W A3 hi 1) ⟨by (repeat' (first | (with_reducible assumption) | (with_reducible exact Below.refl _ _) | (with_reducible refine below_wov ?_ ?_ _) | (with_reducible refine below_drewN ?_ _) | (with_reducible refine Below.drew ?_) | (with_reducible refine Below.alloc ?_ ?_ _) | (with_reducible refine Below.setCell ?_ ?_ _) | (with_reducible exact Nat.le_refl _) | omega | (simp only [World.size_alloc, World.size_setCell, World.size_drew, Wov_size, World.heap_drewN]; omega))), m6_0.below (by (repeat' (first | (with_reducible assumption) | (with_reducible exact Below.refl _ _) | (with_reducible refine below_wov ?_ ?_ _) | (with_reducible refine below_drewN ?_ _) | (with_reducible refine Below.drew ?_) | (with_reducible refine Below.alloc ?_ ?_ _) | (with_reducible refine Below.setCell ?_ ?_ _) | (with_reducible exact Nat.le_refl _) | omega | (simp only [World.size_alloc, World.size_setCell, World.size_drew, Wov_size, World.heap_drewN]; omega)))), m6_1.below (by (repeat' (first | (with_reducible assumption) | (with_reducible exact Below.refl _ _) | (with_reducible refine below_wov ?_ ?_ _) | (with_reducible refine below_drewN ?_ _) | (with_reducible refine Below.drew ?_) | (with_reducible refine Below.alloc ?_ ?_ _) | (with_reducible refine Below.setCell ?_ ?_ _) | (with_reducible exact Nat.le_refl _) | omega | (simp only [World.size_alloc, World.size_setCell, World.size_drew, Wov_size, World.heap_drewN]; omega)))), m6_2.below (by (repeat' (first | (with_reducible assumption) | (with_reducible exact Below.refl _ _) | (with_reducible refine below_wov ?_ ?_ _) | (with_reducible refine below_drewN ?_ _) | (with_reducible refine Below.drew ?_) | (with_reducible refine Below.alloc ?_ ?_ _) | (with_reducible refine Below.setCell ?_ ?_ _) | (with_reducible exact Nat.le_refl _) | omega | (simp only [World.size_alloc, World.size_setCell, World.size_drew, Wov_size, World.heap_drewN]; omega)))), m6_3.below (by (repeat' (first | (with_reducible assumption) | (with_reducible exact Below.refl _ _) | (with_reducible refine below_wov ?_ ?_ _) | (with_reducible refine below_drewN ?_ _) | (with_reducible refine Below.drew ?_) | (with_reducible refine Below.alloc ?_ ?_ _) | (with_reducible refine Below.setCell ?_ ?_ _) | (with_reducible exact Nat.le_refl _) | omega | (simp only [World.size_alloc, World.size_setCell, World.size_drew, Wov_size, World.heap_drewN]; omega)))), m6_4.below (by (repeat' (first | (with_reducible assumption) | (with_reducible exact Below.refl _ _) | (with_reducible refine below_wov ?_ ?_ _) | (with_reducible refine below_drewN ?_ _) | (with_reducible refine Below.drew ?_) | (with_reducible refine Below.alloc ?_ ?_ _) | (with_reducible refine Below.setCell ?_ ?_ _) | (with_reducible exact Nat.le_refl _) | omega | (simp only [World.size_alloc, World.size_setCell, World.size_drew, Wov_size, World.heap_drewN]; omega)))), BoxR.new (by rw [← hA3]; (try simp only [Wov_size]))⟩ ?_
              rintro W7 ⟨hb7, m7_0, m7_1, m7_2, m7_3, m7_4, m7_5⟩
              clear hb6 f6_0_lt f6_0_c0 f6_0_c1 f6_1_lt f6_1_c0 f6_1_c1 f6_1_c2 f6_1_c3 f6_1_c4 f6_3_lt f6_3_c0 f6_3_c1 f6_4_lt f6_4_c0 f6_4_c1 m6_0 m6_1 m6_2 m6_3 m6_4
              have f7_0_lt := m7_0.lt
              have f7_0_c0 := m7_0.c0
              have f7_0_c1 := m7_0.c1
              have f7_1_lt := m7_1.lt
              have f7_1_c0 := m7_1.c0
              have f7_1_c1 := m7_1.c1
              have f7_1_c2 := m7_1.c2
              have f7_1_c3 := m7_1.c3
              have f7_1_c4 := m7_1.c4
              have f7_3_lt := m7_3.lt
              have f7_3_c0 := m7_3.c0
              have f7_3_c1 := m7_3.c1
              have f7_4_lt := m7_4.lt
              have f7_4_c0 := m7_4.c0
              have f7_4_c1 := m7_4.c1
              have f7_5_lt := m7_5.lt
              have f7_5_c0 := m7_5.c0
              have f7_5_c1 := m7_5.c1
              refine wp_region_wov (by kernel_rfl) (by kernel_rfl) ?_
              repeat (go_big_quiet_step ((go_at_call 23; (first | exact (CM2.out).at _ _ | exact (CM2.out).at2 _ _ _ | exact (CM2.out).at3 _ _ _ _ | exact (CM2.out).at4 _ _ _ _ _ | exact (CM2.out).at5 _ _ _ _ _ _ | exact (CM2.out).at6 _ _ _ _ _ _ _))))
              refine wpQuiet_nil ?_
              rintro _ ⟨pq, rfl⟩
              rcases hm0 with rfl | rfl | rfl
              all_goals
                go_wp2_with (fail)
                refine calls_world (fun W => Below w.heap.size w W ∧ BoxM W w.heap.size na pa Na ca fa ∧ BoxS W (w.heap.size + 1) lo ls hi hs false ∧ SlR W q M T ∧ BoxM W A1 y1 p1 Y1 c1 h1 ∧ PairAt W Z (a' * 2) u1 u2 ∧ BoxR W A3 hi 1) ⟨by (repeat' (first | (with_reducible assumption) | (with_reducible exact Below.refl _ _) | (with_reducible refine below_wov ?_ ?_ _) | (with_reducible refine below_drewN ?_ _) | (with_reducible refine Below.drew ?_) | (with_reducible refine Below.alloc ?_ ?_ _) | (with_reducible refine Below.setCell ?_ ?_ _) | (with_reducible exact Nat.le_refl _) | omega | (simp only [World.size_alloc, World.size_setCell, World.size_drew, Wov_size, World.heap_drewN]; omega))), m7_0.below (by (repeat' (first | (with_reducible assumption) | (with_reducible exact Below.refl _ _) | (with_reducible refine below_wov ?_ ?_ _) | (with_reducible refine below_drewN ?_ _) | (with_reducible refine Below.drew ?_) | (with_reducible refine Below.alloc ?_ ?_ _) | (with_reducible refine Below.setCell ?_ ?_ _) | (with_reducible exact Nat.le_refl _) | omega | (simp only [World.size_alloc, World.size_setCell, World.size_drew, Wov_size, World.heap_drewN]; omega)))), m7_1.below (by (repeat' (first | (with_reducible assumption) | (with_reducible exact Below.refl _ _) | (with_reducible refine below_wov ?_ ?_ _) | (with_reducible refine below_drewN ?_ _) | (with_reducible refine Below.drew ?_) | (with_reducible refine Below.alloc ?_ ?_ _) | (with_reducible refine Below.setCell ?_ ?_ _) | (with_reducible exact Nat.le_refl _) | omega | (simp only [World.size_alloc, World.size_setCell, World.size_drew, Wov_size, World.heap_drewN]; omega)))), m7_2.below (by (repeat' (first | (with_reducible assumption) | (with_reducible exact Below.refl _ _) | (with_reducible refine below_wov ?_ ?_ _) | (with_reducible refine below_drewN ?_ _) | (with_reducible refine Below.drew ?_) | (with_reducible refine Below.alloc ?_ ?_ _) | (with_reducible refine Below.setCell ?_ ?_ _) | (with_reducible exact Nat.le_refl _) | omega | (simp only [World.size_alloc, World.size_setCell, World.size_drew, Wov_size, World.heap_drewN]; omega)))), m7_3.below (by (repeat' (first | (with_reducible assumption) | (with_reducible exact Below.refl _ _) | (with_reducible refine below_wov ?_ ?_ _) | (with_reducible refine below_drewN ?_ _) | (with_reducible refine Below.drew ?_) | (with_reducible refine Below.alloc ?_ ?_ _) | (with_reducible refine Below.setCell ?_ ?_ _) | (with_reducible exact Nat.le_refl _) | omega | (simp only [World.size_alloc, World.size_setCell, World.size_drew, Wov_size, World.heap_drewN]; omega)))), m7_4.below (by (repeat' (first | (with_reducible assumption) | (with_reducible exact Below.refl _ _) | (with_reducible refine below_wov ?_ ?_ _) | (with_reducible refine below_drewN ?_ _) | (with_reducible refine Below.drew ?_) | (with_reducible refine Below.alloc ?_ ?_ _) | (with_reducible refine Below.setCell ?_ ?_ _) | (with_reducible exact Nat.le_refl _) | omega | (simp only [World.size_alloc, World.size_setCell, World.size_drew, Wov_size, World.heap_drewN]; omega)))), m7_5.below (by (repeat' (first | (with_reducible assumption) | (with_reducible exact Below.refl _ _) | (with_reducible refine below_wov ?_ ?_ _) | (with_reducible refine below_drewN ?_ _) | (with_reducible refine Below.drew ?_) | (with_reducible refine Below.alloc ?_ ?_ _) | (with_reducible refine Below.setCell ?_ ?_ _) | (with_reducible exact Nat.le_refl _) | omega | (simp only [World.size_alloc, World.size_setCell, World.size_drew, Wov_size, World.heap_drewN]; omega))))⟩ ?_
                rintro W8 ⟨hb8, m8_0, m8_1, m8_2, m8_3, m8_4, m8_5⟩
                clear hb7 f7_0_lt f7_0_c0 f7_0_c1 f7_1_lt f7_1_c0 f7_1_c1 f7_1_c2 f7_1_c3 f7_1_c4 f7_3_lt f7_3_c0 f7_3_c1 f7_4_lt f7_4_c0 f7_4_c1 f7_5_lt f7_5_c0 f7_5_c1 m7_0 m7_1 m7_2 m7_3 m7_4 m7_5
                have f8_0_lt := m8_0.lt
                have f8_0_c0 := m8_0.c0
                have f8_0_c1 := m8_0.c1
                have f8_1_lt := m8_1.lt
                have f8_1_c0 := m8_1.c0
                have f8_1_c1 := m8_1.c1
                have f8_1_c2 := m8_1.c2
                have f8_1_c3 := m8_1.c3
                have f8_1_c4 := m8_1.c4
                have f8_3_lt := m8_3.lt
                have f8_3_c0 := m8_3.c0
                have f8_3_c1 := m8_3.c1
                have f8_4_lt := m8_4.lt
                have f8_4_c0 := m8_4.c0
                have f8_4_c1 := m8_4.c1
                have f8_5_lt := m8_5.lt
                have f8_5_c0 := m8_5.c0
                have f8_5_c1 := m8_5.c1
                refine (CC.out _ _ _ m8_3.sl).mono ?_; rintro e w' ⟨rfl, qe, rfl⟩
                cases s1
                · skip
                  go_wp2
                  all_goals
                    go_ret
                    exact gives_bool (by simp) (by (repeat' (first | (with_reducible assumption) | (with_reducible exact Below.refl _ _) | (with_reducible refine below_wov ?_ ?_ _) | (with_reducible refine below_drewN ?_ _) | (with_reducible refine Below.drew ?_) | (with_reducible refine Below.alloc ?_ ?_ _) | (with_reducible refine Below.setCell ?_ ?_ _) | (with_reducible exact Nat.le_refl _) | omega | (simp only [World.size_alloc, World.size_setCell, World.size_drew, Wov_size, World.heap_drewN]; omega))))
                · skip
                  simp only [rcode, if_true]
                  go_wp2_with (fail)
                  refine calls_world (fun W => Below w.heap.size w W ∧ BoxM W w.heap.size na pa Na ca fa ∧ BoxS W (w.heap.size + 1) lo ls hi hs false ∧ SlR W q M T ∧ BoxM W A1 y1 p1 Y1 c1 h1 ∧ PairAt W Z (a' * 2) u1 u2 ∧ BoxR W A3 hi 1) ⟨by (repeat' (first | (with_reducible assumption) | (with_reducible exact Below.refl _ _) | (with_reducible refine below_wov ?_ ?_ _) | (with_reducible refine below_drewN ?_ _) | (with_reducible refine Below.drew ?_) | (with_reducible refine Below.alloc ?_ ?_ _) | (with_reducible refine Below.setCell ?_ ?_ _) | (with_reducible exact Nat.le_refl _) | omega | (simp only [World.size_alloc, World.size_setCell, World.size_drew, Wov_size, World.heap_drewN]; omega))), m8_0.below (by (repeat' (first | (with_reducible assumption) | (with_reducible exact Below.refl _ _) | (with_reducible refine below_wov ?_ ?_ _) | (with_reducible refine below_drewN ?_ _) | (with_reducible refine Below.drew ?_) | (with_reducible refine Below.alloc ?_ ?_ _) | (with_reducible refine Below.setCell ?_ ?_ _) | (with_reducible exact Nat.le_refl _) | omega | (simp only [World.size_alloc, World.size_setCell, World.size_drew, Wov_size, World.heap_drewN]; omega)))), m8_1.below (by (repeat' (first | (with_reducible assumption) | (with_reducible exact Below.refl _ _) | (with_reducible refine below_wov ?_ ?_ _) | (with_reducible refine below_drewN ?_ _) | (with_reducible refine Below.drew ?_) | (with_reducible refine Below.alloc ?_ ?_ _) | (with_reducible refine Below.setCell ?_ ?_ _) | (with_reducible exact Nat.le_refl _) | omega | (simp only [World.size_alloc, World.size_setCell, World.size_drew, Wov_size, World.heap_drewN]; omega)))), m8_2.below (by (repeat' (first | (with_reducible assumption) | (with_reducible exact Below.refl _ _) | (with_reducible refine below_wov ?_ ?_ _) | (with_reducible refine below_drewN ?_ _) | (with_reducible refine Below.drew ?_) | (with_reducible refine Below.alloc ?_ ?_ _) | (with_reducible refine Below.setCell ?_ ?_ _) | (with_reducible exact Nat.le_refl _) | omega | (simp only [World.size_alloc, World.size_setCell, World.size_drew, Wov_size, World.heap_drewN]; omega)))), m8_3.below (by (repeat' (first | (with_reducible assumption) | (with_reducible exact Below.refl _ _) | (with_reducible refine below_wov ?_ ?_ _) | (with_reducible refine below_drewN ?_ _) | (with_reducible refine Below.drew ?_) | (with_reducible refine Below.alloc ?_ ?_ _) | (with_reducible refine Below.setCell ?_ ?_ _) | (with_reducible exact Nat.le_refl _) | omega | (simp only [World.size_alloc, World.size_setCell, World.size_drew, Wov_size, World.heap_drewN]; omega)))), m8_4.below (by (repeat' (first | (with_reducible assumption) | (with_reducible exact Below.refl _ _) | (with_reducible refine below_wov ?_ ?_ _) | (with_reducible refine below_drewN ?_ _) | (with_reducible refine Below.drew ?_) | (with_reducible refine Below.alloc ?_ ?_ _) | (with_reducible refine Below.setCell ?_ ?_ _) | (with_reducible exact Nat.le_refl _) | omega | (simp only [World.size_alloc, World.size_setCell, World.size_drew, Wov_size, World.heap_drewN]; omega)))), m8_5.below (by (repeat' (first | (with_reducible assumption) | (with_reducible exact Below.refl _ _) | (with_reducible refine below_wov ?_ ?_ _) | (with_reducible refine below_drewN ?_ _) | (with_reducible refine Below.drew ?_) | (with_reducible refine Below.alloc ?_ ?_ _) | (with_reducible refine Below.setCell ?_ ?_ _) | (with_reducible exact Nat.le_refl _) | omega | (simp only [World.size_alloc, World.size_setCell, World.size_drew, Wov_size, World.heap_drewN]; omega))))⟩ ?_
                  rintro W9 ⟨hb9, m9_0, m9_1, m9_2, m9_3, m9_4, m9_5⟩
                  clear hb8 f8_0_lt f8_0_c0 f8_0_c1 f8_1_lt f8_1_c0 f8_1_c1 f8_1_c2 f8_1_c3 f8_1_c4 f8_3_lt f8_3_c0 f8_3_c1 f8_4_lt f8_4_c0 f8_4_c1 f8_5_lt f8_5_c0 f8_5_c1 m8_0 m8_1 m8_2 m8_3 m8_4 m8_5
                  have f9_0_lt := m9_0.lt
                  have f9_0_c0 := m9_0.c0
                  have f9_0_c1 := m9_0.c1
                  have f9_1_lt := m9_1.lt
                  have f9_1_c0 := m9_1.c0
                  have f9_1_c1 := m9_1.c1
                  have f9_1_c2 := m9_1.c2
                  have f9_1_c3 := m9_1.c3
                  have f9_1_c4 := m9_1.c4
                  have f9_3_lt := m9_3.lt
                  have f9_3_c0 := m9_3.c0
                  have f9_3_c1 := m9_3.c1
                  have f9_4_lt := m9_4.lt
                  have f9_4_c0 := m9_4.c0
                  have f9_4_c1 := m9_4.c1
                  have f9_5_lt := m9_5.lt
                  have f9_5_c0 := m9_5.c0
                  have f9_5_c1 := m9_5.c1
                  refine ((KCC.out _ (H0.out (by simp) (by simp))).out _ _ _ m9_3.sl m9_2).mono ?_; rintro e w' ⟨rfl, qf, rfl⟩
                  have hi := HIN.out
                  clear H6 H0 HIN
                  simp [cmpIn] at hi
                  subst hi
                  cases one
                  all_goals
                    go_wp2
                    all_goals
                      go_ret
                      exact gives_bool (by simp) (by (repeat' (first | (with_reducible assumption) | (with_reducible exact Below.refl _ _) | (with_reducible refine below_wov ?_ ?_ _) | (with_reducible refine below_drewN ?_ _) | (with_reducible refine Below.drew ?_) | (with_reducible refine Below.alloc ?_ ?_ _) | (with_reducible refine Below.setCell ?_ ?_ _) | (with_reducible exact Nat.le_refl _) | omega | (simp only [World.size_alloc, World.size_setCell, World.size_drew, Wov_size, World.heap_drewN]; omega))))
            · skip
              go_wp2_with (fail)
              refine calls_world (fun W => Below w.heap.size w W ∧ BoxM W w.heap.size na pa Na ca fa ∧ BoxS W (w.heap.size + 1) lo ls hi hs true ∧ SlR W q M T ∧ BoxM W A1 y1 p1 Y1 c1 h1 ∧ PairAt W Z (a' * 2) u1 u2 ∧ BoxR W A2 lo 1) ⟨by (repeat' (first | (with_reducible assumption) | (with_reducible exact Below.refl _ _) | (with_reducible refine below_wov ?_ ?_ _) | (with_reducible refine below_drewN ?_ _) | (with_reducible refine Below.drew ?_) | (with_reducible refine Below.alloc ?_ ?_ _) | (with_reducible refine Below.setCell ?_ ?_ _) | (with_reducible exact Nat.le_refl _) | omega | (simp only [World.size_alloc, World.size_setCell, World.size_drew, Wov_size, World.heap_drewN]; omega))), m5_0.below (by (repeat' (first | (with_reducible assumption) | (with_reducible exact Below.refl _ _) | (with_reducible refine below_wov ?_ ?_ _) | (with_reducible refine below_drewN ?_ _) | (with_reducible refine Below.drew ?_) | (with_reducible refine Below.alloc ?_ ?_ _) | (with_reducible refine Below.setCell ?_ ?_ _) | (with_reducible exact Nat.le_refl _) | omega | (simp only [World.size_alloc, World.size_setCell, World.size_drew, Wov_size, World.heap_drewN]; omega)))), m5_1.below (by (repeat' (first | (with_reducible assumption) | (with_reducible exact Below.refl _ _) | (with_reducible refine below_wov ?_ ?_ _) | (with_reducible refine below_drewN ?_ _) | (with_reducible refine Below.drew ?_) | (with_reducible refine Below.alloc ?_ ?_ _) | (with_reducible refine Below.setCell ?_ ?_ _) | (with_reducible exact Nat.le_refl _) | omega | (simp only [World.size_alloc, World.size_setCell, World.size_drew, Wov_size, World.heap_drewN]; omega)))), m5_2.below (by (repeat' (first | (with_reducible assumption) | (with_reducible exact Below.refl _ _) | (with_reducible refine below_wov ?_ ?_ _) | (with_reducible refine below_drewN ?_ _) | (with_reducible refine Below.drew ?_) | (with_reducible refine Below.alloc ?_ ?_ _) | (with_reducible refine Below.setCell ?_ ?_ _) | (with_reducible exact Nat.le_refl _) | omega | (simp only [World.size_alloc, World.size_setCell, World.size_drew, Wov_size, World.heap_drewN]; omega)))), m5_3.below (by (repeat' (first | (with_reducible assumption) | (with_reducible exact Below.refl _ _) | (with_reducible refine below_wov ?_ ?_ _) | (with_reducible refine below_drewN ?_ _) | (with_reducible refine Below.drew ?_) | (with_reducible refine Below.alloc ?_ ?_ _) | (with_reducible refine Below.setCell ?_ ?_ _) | (with_reducible exact Nat.le_refl _) | omega | (simp only [World.size_alloc, World.size_setCell, World.size_drew, Wov_size, World.heap_drewN]; omega)))), m5_4.below (by (repeat' (first | (with_reducible assumption) | (with_reducible exact Below.refl _ _) | (with_reducible refine below_wov ?_ ?_ _) | (with_reducible refine below_drewN ?_ _) | (with_reducible refine Below.drew ?_) | (with_reducible refine Below.alloc ?_ ?_ _) | (with_reducible refine Below.setCell ?_ ?_ _) | (with_reducible exact Nat.le_refl _) | omega | (simp only [World.size_alloc, World.size_setCell, World.size_drew, Wov_size, World.heap_drewN]; omega)))), m5_5.below (by (repeat' (first | (with_reducible assumption) | (with_reducible exact Below.refl _ _) | (with_reducible refine below_wov ?_ ?_ _) | (with_reducible refine below_drewN ?_ _) | (with_reducible refine Below.drew ?_) | (with_reducible refine Below.alloc ?_ ?_ _) | (with_reducible refine Below.setCell ?_ ?_ _) | (with_reducible exact Nat.le_refl _) | omega | (simp only [World.size_alloc, World.size_setCell, World.size_drew, Wov_size, World.heap_drewN]; omega))))⟩ ?_
              rintro W6 ⟨hb6, m6_0, m6_1, m6_2, m6_3, m6_4, m6_5⟩
              clear hb5 f5_0_lt f5_0_c0 f5_0_c1 f5_1_lt f5_1_c0 f5_1_c1 f5_1_c2 f5_1_c3 f5_1_c4 f5_3_lt f5_3_c0 f5_3_c1 f5_4_lt f5_4_c0 f5_4_c1 f5_5_lt f5_5_c0 f5_5_c1 m5_0 m5_1 m5_2 m5_3 m5_4 m5_5
              have f6_0_lt := m6_0.lt
              have f6_0_c0 := m6_0.c0
              have f6_0_c1 := m6_0.c1
              have f6_1_lt := m6_1.lt
              have f6_1_c0 := m6_1.c0
              have f6_1_c1 := m6_1.c1
              have f6_1_c2 := m6_1.c2
              have f6_1_c3 := m6_1.c3
              have f6_1_c4 := m6_1.c4
              have f6_3_lt := m6_3.lt
              have f6_3_c0 := m6_3.c0
              have f6_3_c1 := m6_3.c1
              have f6_4_lt := m6_4.lt
              have f6_4_c0 := m6_4.c0
              have f6_4_c1 := m6_4.c1
              have f6_5_lt := m6_5.lt
              have f6_5_c0 := m6_5.c0
              have f6_5_c1 := m6_5.c1
              refine (CC.out _ _ _ m6_3.sl).mono ?_; rintro e w' ⟨rfl, qe, rfl⟩
              cases s1
              · skip
                go_wp2
                all_goals
                  go_ret
                  exact gives_bool (by simp) (by (repeat' (first | (with_reducible assumption) | (with_reducible exact Below.refl _ _) | (with_reducible refine below_wov ?_ ?_ _) | (with_reducible refine below_drewN ?_ _) | (with_reducible refine Below.drew ?_) | (with_reducible refine Below.alloc ?_ ?_ _) | (with_reducible refine Below.setCell ?_ ?_ _) | (with_reducible exact Nat.le_refl _) | omega | (simp only [World.size_alloc, World.size_setCell, World.size_drew, Wov_size, World.heap_drewN]; omega))))
              · skip
                simp only [rcode, if_true]
                go_wp2_with (fail)
                refine calls_world (fun W => Below w.heap.size w W ∧ BoxM W w.heap.size na pa Na ca fa ∧ BoxS W (w.heap.size + 1) lo ls hi hs true ∧ SlR W q M T ∧ BoxM W A1 y1 p1 Y1 c1 h1 ∧ PairAt W Z (a' * 2) u1 u2 ∧ BoxR W A2 lo 1) ⟨by (repeat' (first | (with_reducible assumption) | (with_reducible exact Below.refl _ _) | (with_reducible refine below_wov ?_ ?_ _) | (with_reducible refine below_drewN ?_ _) | (with_reducible refine Below.drew ?_) | (with_reducible refine Below.alloc ?_ ?_ _) | (with_reducible refine Below.setCell ?_ ?_ _) | (with_reducible exact Nat.le_refl _) | omega | (simp only [World.size_alloc, World.size_setCell, World.size_drew, Wov_size, World.heap_drewN]; omega))), m6_0.below (by (repeat' (first | (with_reducible assumption) | (with_reducible exact Below.refl _ _) | (with_reducible refine below_wov ?_ ?_ _) | (with_reducible refine below_drewN ?_ _) | (with_reducible refine Below.drew ?_) | (with_reducible refine Below.alloc ?_ ?_ _) | (with_reducible refine Below.setCell ?_ ?_ _) | (with_reducible exact Nat.le_refl _) | omega | (simp only [World.size_alloc, World.size_setCell, World.size_drew, Wov_size, World.heap_drewN]; omega)))), m6_1.below (by (repeat' (first | (with_reducible assumption) | (with_reducible exact Below.refl _ _) | (with_reducible refine below_wov ?_ ?_ _) | (with_reducible refine below_drewN ?_ _) | (with_reducible refine Below.drew ?_) | (with_reducible refine Below.alloc ?_ ?_ _) | (with_reducible refine Below.setCell ?_ ?_ _) | (with_reducible exact Nat.le_refl _) | omega | (simp only [World.size_alloc, World.size_setCell, World.size_drew, Wov_size, World.heap_drewN]; omega)))), m6_2.below (by (repeat' (first | (with_reducible assumption) | (with_reducible exact Below.refl _ _) | (with_reducible refine below_wov ?_ ?_ _) | (with_reducible refine below_drewN ?_ _) | (with_reducible refine Below.drew ?_) | (with_reducible refine Below.alloc ?_ ?_ _) | (with_reducible refine Below.setCell ?_ ?_ _) | (with_reducible exact Nat.le_refl _) | omega | (simp only [World.size_alloc, World.size_setCell, World.size_drew, Wov_size, World.heap_drewN]; omega)))), m6_3.below (by (repeat' (first | (with_reducible assumption) | (with_reducible exact Below.refl _ _) | (with_reducible refine below_wov ?_ ?_ _) | (with_reducible refine below_drewN ?_ _) | (with_reducible refine Below.drew ?_) | (with_reducible refine Below.alloc ?_ ?_ _) | (with_reducible refine Below.setCell ?_ ?_ _) | (with_reducible exact Nat.le_refl _) | omega | (simp only [World.size_alloc, World.size_setCell, World.size_drew, Wov_size, World.heap_drewN]; omega)))), m6_4.below (by (repeat' (first | (with_reducible assumption) | (with_reducible exact Below.refl _ _) | (with_reducible refine below_wov ?_ ?_ _) | (with_reducible refine below_drewN ?_ _) | (with_reducible refine Below.drew ?_) | (with_reducible refine Below.alloc ?_ ?_ _) | (with_reducible refine Below.setCell ?_ ?_ _) | (with_reducible exact Nat.le_refl _) | omega | (simp only [World.size_alloc, World.size_setCell, World.size_drew, Wov_size, World.heap_drewN]; omega)))), m6_5.below (by (repeat' (first | (with_reducible assumption) | (with_reducible exact Below.refl _ _) | (with_reducible refine below_wov ?_ ?_ _) | (with_reducible refine below_drewN ?_ _) | (with_reducible refine Below.drew ?_) | (with_reducible refine Below.alloc ?_ ?_ _) | (with_reducible refine Below.setCell ?_ ?_ _) | (with_reducible exact Nat.le_refl _) | omega | (simp only [World.size_alloc, World.size_setCell, World.size_drew, Wov_size, World.heap_drewN]; omega))))⟩ ?_
                rintro W7 ⟨hb7, m7_0, m7_1, m7_2, m7_3, m7_4, m7_5⟩
                clear hb6 f6_0_lt f6_0_c0 f6_0_c1 f6_1_lt f6_1_c0 f6_1_c1 f6_1_c2 f6_1_c3 f6_1_c4 f6_3_lt f6_3_c0 f6_3_c1 f6_4_lt f6_4_c0 f6_4_c1 f6_5_lt f6_5_c0 f6_5_c1 m6_0 m6_1 m6_2 m6_3 m6_4 m6_5
                have f7_0_lt := m7_0.lt
                have f7_0_c0 := m7_0.c0
                have f7_0_c1 := m7_0.c1
                have f7_1_lt := m7_1.lt
                have f7_1_c0 := m7_1.c0
                have f7_1_c1 := m7_1.c1
                have f7_1_c2 := m7_1.c2
                have f7_1_c3 := m7_1.c3
                have f7_1_c4 := m7_1.c4
                have f7_3_lt := m7_3.lt
                have f7_3_c0 := m7_3.c0
                have f7_3_c1 := m7_3.c1
                have f7_4_lt := m7_4.lt
                have f7_4_c0 := m7_4.c0
                have f7_4_c1 := m7_4.c1
                have f7_5_lt := m7_5.lt
                have f7_5_c0 := m7_5.c0
                have f7_5_c1 := m7_5.c1
                refine ((KCC.out _ (H0.out (by simp) (by simp))).out _ _ _ m7_3.sl m7_2).mono ?_; rintro e w' ⟨rfl, qf, rfl⟩
                have hi := HIN.out
                clear H6 H0 HIN
                simp [cmpIn] at hi
                subst hi
                cases one
                all_goals
                  go_wp2
                  all_goals
                    go_ret
                    exact gives_bool (by simp) (by (repeat' (first | (with_reducible assumption) | (with_reducible exact Below.refl _ _) | (with_reducible refine below_wov ?_ ?_ _) | (with_reducible refine below_drewN ?_ _) | (with_reducible refine Below.drew ?_) | (with_reducible refine Below.alloc ?_ ?_ _) | (with_reducible refine Below.setCell ?_ ?_ _) | (with_reducible exact Nat.le_refl _) | omega | (simp only [World.size_alloc, World.size_setCell, World.size_drew, Wov_size, World.heap_drewN]; omega))))
          · skip
            cases ls
            · skip
              cases op
              · skip
                go_wp2_with (fail)
                refine calls_world (fun W => Below w.heap.size w W ∧ BoxM W w.heap.size na pa Na ca fa ∧ BoxS W (w.heap.size + 1) lo false hi hs false ∧ SlR W q M T ∧ BoxM W A1 y1 p1 Y1 c1 h1 ∧ PairAt W Z (a' * 2) u1 u2) ⟨by (repeat' (first | (with_reducible assumption) | (with_reducible exact Below.refl _ _) | (with_reducible refine below_wov ?_ ?_ _) | (with_reducible refine below_drewN ?_ _) | (with_reducible refine Below.drew ?_) | (with_reducible refine Below.alloc ?_ ?_ _) | (with_reducible refine Below.setCell ?_ ?_ _) | (with_reducible exact Nat.le_refl _) | omega | (simp only [World.size_alloc, World.size_setCell, World.size_drew, Wov_size, World.heap_drewN]; omega))), m5_0.below (by (repeat' (first | (with_reducible assumption) | (with_reducible exact Below.refl _ _) | (with_reducible refine below_wov ?_ ?_ _) | (with_reducible refine below_drewN ?_ _) | (with_reducible refine Below.drew ?_) | (with_reducible refine Below.alloc ?_ ?_ _) | (with_reducible refine Below.setCell ?_ ?_ _) | (with_reducible exact Nat.le_refl _) | omega | (simp only [World.size_alloc, World.size_setCell, World.size_drew, Wov_size, World.heap_drewN]; omega)))), m5_1.below (by (repeat' (first | (with_reducible assumption) | (with_reducible exact Below.refl _ _) | (with_reducible refine below_wov ?_ ?_ _) | (with_reducible refine below_drewN ?_ _) | (with_reducible refine Below.drew ?_) | (with_reducible refine Below.alloc ?_ ?_ _) | (with_reducible refine Below.setCell ?_ ?_ _) | (with_reducible exact Nat.le_refl _) | omega | (simp only [World.size_alloc, World.size_setCell, World.size_drew, Wov_size, World.heap_drewN]; omega)))), m5_2.below (by (repeat' (first | (with_reducible assumption) | (with_reducible exact Below.refl _ _) | (with_reducible refine below_wov ?_ ?_ _) | (with_reducible refine below_drewN ?_ _) | (with_reducible refine Below.drew ?_) | (with_reducible refine Below.alloc ?_ ?_ _) | (with_reducible refine Below.setCell ?_ ?_ _) | (with_reducible exact Nat.le_refl _) | omega | (simp only [World.size_alloc, World.size_setCell, World.size_drew, Wov_size, World.heap_drewN]; omega)))), m5_3.below (by (repeat' (first | (with_reducible assumption) | (with_reducible exact Below.refl _ _) | (with_reducible refine below_wov ?_ ?_ _) | (with_reducible refine below_drewN ?_ _) | (with_reducible refine Below.drew ?_) | (with_reducible refine Below.alloc ?_ ?_ _) | (with_reducible refine Below.setCell ?_ ?_ _) | (with_reducible exact Nat.le_refl _) | omega | (simp only [World.size_alloc, World.size_setCell, World.size_drew, Wov_size, World.heap_drewN]; omega)))), m5_4.below (by (repeat' (first | (with_reducible assumption) | (with_reducible exact Below.refl _ _) | (with_reducible refine below_wov ?_ ?_ _) | (with_reducible refine below_drewN ?_ _) | (with_reducible refine Below.drew ?_) | (with_reducible refine Below.alloc ?_ ?_ _) | (with_reducible refine Below.setCell ?_ ?_ _) | (with_reducible exact Nat.le_refl _) | omega | (simp only [World.size_alloc, World.size_setCell, World.size_drew, Wov_size, World.heap_drewN]; omega))))⟩ ?_
                rintro W6 ⟨hb6, m6_0, m6_1, m6_2, m6_3, m6_4⟩
                clear hb5 f5_0_lt f5_0_c0 f5_0_c1 f5_1_lt f5_1_c0 f5_1_c1 f5_1_c2 f5_1_c3 f5_1_c4 f5_3_lt f5_3_c0 f5_3_c1 f5_4_lt f5_4_c0 f5_4_c1 f5_5_lt f5_5_c0 f5_5_c1 m5_0 m5_1 m5_2 m5_3 m5_4 m5_5
                have f6_0_lt := m6_0.lt
                have f6_0_c0 := m6_0.c0
                have f6_0_c1 := m6_0.c1
                have f6_1_lt := m6_1.lt
                have f6_1_c0 := m6_1.c0
                have f6_1_c1 := m6_1.c1
                have f6_1_c2 := m6_1.c2
                have f6_1_c3 := m6_1.c3
                have f6_1_c4 := m6_1.c4
                have f6_3_lt := m6_3.lt
                have f6_3_c0 := m6_3.c0
                have f6_3_c1 := m6_3.c1
                have f6_4_lt := m6_4.lt
                have f6_4_c0 := m6_4.c0
                have f6_4_c1 := m6_4.c1
                refine (OH.out _).mono ?_; rintro e w' ⟨rfl, q4, rfl⟩
                go_wp2_with (fail)
                obtain ⟨A3, hA3⟩ : ∃ A, W6.heap.size + q4.bl.size = A := ⟨_, rfl⟩
                rw [hA3]
                refine wp_world (fun W => Below w.heap.size w W ∧ BoxM W w.heap.size na pa Na ca fa ∧ BoxS W (w.heap.size + 1) lo false hi hs false ∧ SlR W q M T ∧ BoxM W A1 y1 p1 Y1 c1 h1 ∧ PairAt W Z (a' * 2) u1 u2 ∧ BoxR W A3 hi 1) ⟨by (repeat' (first | (with_reducible assumption) | (with_reducible exact Below.refl _ _) | (with_reducible refine below_wov ?_ ?_ _) | (with_reducible refine below_drewN ?_ _) | (with_reducible refine Below.drew ?_) | (with_reducible refine Below.alloc ?_ ?_ _) | (with_reducible refine Below.setCell ?_ ?_ _) | (with_reducible exact Nat.le_refl _) | omega | (simp only [World.size_alloc, World.size_setCell, World.size_drew, Wov_size, World.heap_drewN]; omega))), m6_0.below (by (repeat' (first | (with_reducible assumption) | (with_reducible exact Below.refl _ _) | (with_reducible refine below_wov ?_ ?_ _) | (with_reducible refine below_drewN ?_ _) | (with_reducible refine Below.drew ?_) | (with_reducible refine Below.alloc ?_ ?_ _) | (with_reducible refine Below.setCell ?_ ?_ _) | (with_reducible exact Nat.le_refl _) | omega | (simp only [World.size_alloc, World.size_setCell, World.size_drew, Wov_size, World.heap_drewN]; omega)))), m6_1.below (by (repeat' (first | (with_reducible assumption) | (with_reducible exact Below.refl _ _) | (with_reducible refine below_wov ?_ ?_ _) | (with_reducible refine below_drewN ?_ _) | (with_reducible refine Below.drew ?_) | (with_reducible refine Below.alloc ?_ ?_ _) | (with_reducible refine Below.setCell ?_ ?_ _) | (with_reducible exact Nat.le_refl _) | omega | (simp only [World.size_alloc, World.size_setCell, World.size_drew, Wov_size, World.heap_drewN]; omega)))), m6_2.below (by (repeat' (first | (with_reducible assumption) | (with_reducible exact Below.refl _ _) | (with_reducible refine below_wov ?_ ?_ _) | (with_reducible refine below_drewN ?_ _) | (with_reducible refine Below.drew ?_) | (with_reducible refine Below.alloc ?_ ?_ _) | (with_reducible refine Below.setCell ?_ ?_ _) | (with_reducible exact Nat.le_refl _) | omega | (simp only [World.size_alloc, World.size_setCell, World.size_drew, Wov_size, World.heap_drewN]; omega)))), m6_3.below (by (repeat' (first | (with_reducible assumption) | (with_reducible exact Below.refl _ _) | (with_reducible refine below_wov ?_ ?_ _) | (with_reducible refine below_drewN ?_ _) | (with_reducible refine Below.drew ?_) | (with_reducible refine Below.alloc ?_ ?_ _) | (with_reducible refine Below.setCell ?_ ?_ _) | (with_reducible exact Nat.le_refl _) | omega | (simp only [World.size_alloc, World.size_setCell, World.size_drew, Wov_size, World.heap_drewN]; omega)))), m6_4.below (by (repeat' (first | (with_reducible assumption) | (with_reducible exact Below.refl _ _) | (with_reducible refine below_wov ?_ ?_ _) | (with_reducible refine below_drewN ?_ _) | (with_reducible refine Below.drew ?_) | (with_reducible refine Below.alloc ?_ ?_ _) | (with_reducible refine Below.setCell ?_ ?_ _) | (with_reducible exact Nat.le_refl _) | omega | (simp only [World.size_alloc, World.size_setCell, World.size_drew, Wov_size, World.heap_drewN]; omega)))), BoxR.new (by rw [← hA3]; (try simp only [Wov_size]))⟩ ?_
                rintro W7 ⟨hb7, m7_0, m7_1, m7_2, m7_3, m7_4, m7_5⟩
                clear hb6 f6_0_lt f6_0_c0 f6_0_c1 f6_1_lt f6_1_c0 f6_1_c1 f6_1_c2 f6_1_c3 f6_1_c4 f6_3_lt f6_3_c0 f6_3_c1 f6_4_lt f6_4_c0 f6_4_c1 m6_0 m6_1 m6_2 m6_3 m6_4
                have f7_0_lt := m7_0.lt
                have f7_0_c0 := m7_0.c0
                have f7_0_c1 := m7_0.c1
                have f7_1_lt := m7_1.lt
                have f7_1_c0 := m7_1.c0
                have f7_1_c1 := m7_1.c1
                have f7_1_c2 := m7_1.c2
                have f7_1_c3 := m7_1.c3
                have f7_1_c4 := m7_1.c4
                have f7_3_lt := m7_3.lt
                have f7_3_c0 := m7_3.c0
                have f7_3_c1 := m7_3.c1
                have f7_4_lt := m7_4.lt
                have f7_4_c0 := m7_4.c0
                have f7_4_c1 := m7_4.c1
                have f7_5_lt := m7_5.lt
                have f7_5_c0 := m7_5.c0
                have f7_5_c1 := m7_5.c1
                refine wp_region_wov (by kernel_rfl) (by kernel_rfl) ?_
                repeat (go_big_quiet_step ((go_at_call 23; (first | exact (CM2.out).at _ _ | exact (CM2.out).at2 _ _ _ | exact (CM2.out).at3 _ _ _ _ | exact (CM2.out).at4 _ _ _ _ _ | exact (CM2.out).at5 _ _ _ _ _ _ | exact (CM2.out).at6 _ _ _ _ _ _ _))))
                refine wpQuiet_nil ?_
                rintro _ ⟨pq, rfl⟩
                rcases hm0 with rfl | rfl | rfl
                all_goals
                  go_wp2_with (fail)
                  refine calls_world (fun W => Below w.heap.size w W ∧ BoxM W w.heap.size na pa Na ca fa ∧ BoxS W (w.heap.size + 1) lo false hi hs false ∧ SlR W q M T ∧ BoxM W A1 y1 p1 Y1 c1 h1 ∧ PairAt W Z (a' * 2) u1 u2 ∧ BoxR W A3 hi 1) ⟨by (repeat' (first | (with_reducible assumption) | (with_reducible exact Below.refl _ _) | (with_reducible refine below_wov ?_ ?_ _) | (with_reducible refine below_drewN ?_ _) | (with_reducible refine Below.drew ?_) | (with_reducible refine Below.alloc ?_ ?_ _) | (with_reducible refine Below.setCell ?_ ?_ _) | (with_reducible exact Nat.le_refl _) | omega | (simp only [World.size_alloc, World.size_setCell, World.size_drew, Wov_size, World.heap_drewN]; omega))), m7_0.below (by (repeat' (first | (with_reducible assumption) | (with_reducible exact Below.refl _ _) | (with_reducible refine below_wov ?_ ?_ _) | (with_reducible refine below_drewN ?_ _) | (with_reducible refine Below.drew ?_) | (with_reducible refine Below.alloc ?_ ?_ _) | (with_reducible refine Below.setCell ?_ ?_ _) | (with_reducible exact Nat.le_refl _) | omega | (simp only [World.size_alloc, World.size_setCell, World.size_drew, Wov_size, World.heap_drewN]; omega)))), m7_1.below (by (repeat' (first | (with_reducible assumption) | (with_reducible exact Below.refl _ _) | (with_reducible refine below_wov ?_ ?_ _) | (with_reducible refine below_drewN ?_ _) | (with_reducible refine Below.drew ?_) | (with_reducible refine Below.alloc ?_ ?_ _) | (with_reducible refine Below.setCell ?_ ?_ _) | (with_reducible exact Nat.le_refl _) | omega | (simp only [World.size_alloc, World.size_setCell, World.size_drew, Wov_size, World.heap_drewN]; omega)))), m7_2.below (by (repeat' (first | (with_reducible assumption) | (with_reducible exact Below.refl _ _) | (with_reducible refine below_wov ?_ ?_ _) | (with_reducible refine below_drewN ?_ _) | (with_reducible refine Below.drew ?_) | (with_reducible refine Below.alloc ?_ ?_ _) | (with_reducible refine Below.setCell ?_ ?_ _) | (with_reducible exact Nat.le_refl _) | omega | (simp only [World.size_alloc, World.size_setCell, World.size_drew, Wov_size, World.heap_drewN]; omega)))), m7_3.below (by (repeat' (first | (with_reducible assumption) | (with_reducible exact Below.refl _ _) | (with_reducible refine below_wov ?_ ?_ _) | (with_reducible refine below_drewN ?_ _) | (with_reducible refine Below.drew ?_) | (with_reducible refine Below.alloc ?_ ?_ _) | (with_reducible refine Below.setCell ?_ ?_ _) | (with_reducible exact Nat.le_refl _) | omega | (simp only [World.size_alloc, World.size_setCell, World.size_drew, Wov_size, World.heap_drewN]; omega)))), m7_4.below (by (repeat' (first | (with_reducible assumption) | (with_reducible exact Below.refl _ _) | (with_reducible refine below_wov ?_ ?_ _) | (with_reducible refine below_drewN ?_ _) | (with_reducible refine Below.drew ?_) | (with_reducible refine Below.alloc ?_ ?_ _) | (with_reducible refine Below.setCell ?_ ?_ _) | (with_reducible exact Nat.le_refl _) | omega | (simp only [World.size_alloc, World.size_setCell, World.size_drew, Wov_size, World.heap_drewN]; omega)))), m7_5.below (by (repeat' (first | (with_reducible assumption) | (with_reducible exact Below.refl _ _) | (with_reducible refine below_wov ?_ ?_ _) | (with_reducible refine below_drewN ?_ _) | (with_reducible refine Below.drew ?_) | (with_reducible refine Below.alloc ?_ ?_ _) | (with_reducible refine Below.setCell ?_ ?_ _) | (with_reducible exact Nat.le_refl _) | omega | (simp only [World.size_alloc, World.size_setCell, World.size_drew, Wov_size, World.heap_drewN]; omega))))⟩ ?_
                  rintro W8 ⟨hb8, m8_0, m8_1, m8_2, m8_3, m8_4, m8_5⟩
                  clear hb7 f7_0_lt f7_0_c0 f7_0_c1 f7_1_lt f7_1_c0 f7_1_c1 f7_1_c2 f7_1_c3 f7_1_c4 f7_3_lt f7_3_c0 f7_3_c1 f7_4_lt f7_4_c0 f7_4_c1 f7_5_lt f7_5_c0 f7_5_c1 m7_0 m7_1 m7_2 m7_3 m7_4 m7_5
                  have f8_0_lt := m8_0.lt
                  have f8_0_c0 := m8_0.c0
                  have f8_0_c1 := m8_0.c1
                  have f8_1_lt := m8_1.lt
                  have f8_1_c0 := m8_1.c0
                  have f8_1_c1 := m8_1.c1
                  have f8_1_c2 := m8_1.c2
                  have f8_1_c3 := m8_1.c3
                  have f8_1_c4 := m8_1.c4
                  have f8_3_lt := m8_3.lt
                  have f8_3_c0 := m8_3.c0
                  have f8_3_c1 := m8_3.c1
                  have f8_4_lt := m8_4.lt
                  have f8_4_c0 := m8_4.c0
                  have f8_4_c1 := m8_4.c1
                  have f8_5_lt := m8_5.lt
                  have f8_5_c0 := m8_5.c0
                  have f8_5_c1 := m8_5.c1
                  refine (CC.out _ _ _ m8_3.sl).mono ?_; rintro e w' ⟨rfl, qe, rfl⟩
                  cases s1
                  · skip
                    go_wp2
                    all_goals
                      go_ret
                      exact gives_bool (by simp) (by (repeat' (first | (with_reducible assumption) | (with_reducible exact Below.refl _ _) | (with_reducible refine below_wov ?_ ?_ _) | (with_reducible refine below_drewN ?_ _) | (with_reducible refine Below.drew ?_) | (with_reducible refine Below.alloc ?_ ?_ _) | (with_reducible refine Below.setCell ?_ ?_ _) | (with_reducible exact Nat.le_refl _) | omega | (simp only [World.size_alloc, World.size_setCell, World.size_drew, Wov_size, World.heap_drewN]; omega))))
                  · skip
                    simp only [rcode, if_true]
                    go_wp2_with (fail)
                    refine calls_world (fun W => Below w.heap.size w W ∧ BoxM W w.heap.size na pa Na ca fa ∧ BoxS W (w.heap.size + 1) lo false hi hs false ∧ SlR W q M T ∧ BoxM W A1 y1 p1 Y1 c1 h1 ∧ PairAt W Z (a' * 2) u1 u2 ∧ BoxR W A3 hi 1) ⟨by (repeat' (first | (with_reducible assumption) | (with_reducible exact Below.refl _ _) | (with_reducible refine below_wov ?_ ?_ _) | (with_reducible refine below_drewN ?_ _) | (with_reducible refine Below.drew ?_) | (with_reducible refine Below.alloc ?_ ?_ _) | (with_reducible refine Below.setCell ?_ ?_ _) | (with_reducible exact Nat.le_refl _) | omega | (simp only [World.size_alloc, World.size_setCell, World.size_drew, Wov_size, World.heap_drewN]; omega))), m8_0.below (by (repeat' (first | (with_reducible assumption) | (with_reducible exact Below.refl _ _) | (with_reducible refine below_wov ?_ ?_ _) | (with_reducible refine below_drewN ?_ _) | (with_reducible refine Below.drew ?_) | (with_reducible refine Below.alloc ?_ ?_ _) | (with_reducible refine Below.setCell ?_ ?_ _) | (with_reducible exact Nat.le_refl _) | omega | (simp only [World.size_alloc, World.size_setCell, World.size_drew, Wov_size, World.heap_drewN]; omega)))), m8_1.below (by (repeat' (first | (with_reducible assumption) | (with_reducible exact Below.refl _ _) | (with_reducible refine below_wov ?_ ?_ _) | (with_reducible refine below_drewN ?_ _) | (with_reducible refine Below.drew ?_) | (with_reducible refine Below.alloc ?_ ?_ _) | (with_reducible refine Below.setCell ?_ ?_ _) | (with_reducible exact Nat.le_refl _) | omega | (simp only [World.size_alloc, World.size_setCell, World.size_drew, Wov_size, World.heap_drewN]; omega)))), m8_2.below (by (repeat' (first | (with_reducible assumption) | (with_reducible exact Below.refl _ _) | (with_reducible refine below_wov ?_ ?_ _) | (with_reducible refine below_drewN ?_ _) | (with_reducible refine Below.drew ?_) | (with_reducible refine Below.alloc ?_ ?_ _) | (with_reducible refine Below.setCell ?_ ?_ _) | (with_reducible exact Nat.le_refl _) | omega | (simp only [World.size_alloc, World.size_setCell, World.size_drew, Wov_size, World.heap_drewN]; omega)))), m8_3.below (by (repeat' (first | (with_reducible assumption) | (with_reducible exact Below.refl _ _) | (with_reducible refine below_wov ?_ ?_ _) | (with_reducible refine below_drewN ?_ _) | (with_reducible refine Below.drew ?_) | (with_reducible refine Below.alloc ?_ ?_ _) | (with_reducible refine Below.setCell ?_ ?_ _) | (with_reducible exact Nat.le_refl _) | omega | (simp only [World.size_alloc, World.size_setCell, World.size_drew, Wov_size, World.heap_drewN]; omega)))), m8_4.below (by (repeat' (first | (with_reducible assumption) | (with_reducible exact Below.refl _ _) | (with_reducible refine below_wov ?_ ?_ _) | (with_reducible refine below_drewN ?_ _) | (with_reducible refine Below.drew ?_) | (with_reducible refine Below.alloc ?_ ?_ _) | (with_reducible refine Below.setCell ?_ ?_ _) | (with_reducible exact Nat.le_refl _) | omega | (simp only [World.size_alloc, World.size_setCell, World.size_drew, Wov_size, World.heap_drewN]; omega)))), m8_5.below (by (repeat' (first | (with_reducible assumption) | (with_reducible exact Below.refl _ _) | (with_reducible refine below_wov ?_ ?_ _) | (with_reducible refine below_drewN ?_ _) | (with_reducible refine Below.drew ?_) | (with_reducible refine Below.alloc ?_ ?_ _) | (with_reducible refine Below.setCell ?_ ?_ _) | (with_reducible exact Nat.le_refl _) | omega | (simp only [World.size_alloc, World.size_setCell, World.size_drew, Wov_size, World.heap_drewN]; omega))))⟩ ?_
                    rintro W9 ⟨hb9, m9_0, m9_1, m9_2, m9_3, m9_4, m9_5⟩
                    clear hb8 f8_0_lt f8_0_c0 f8_0_c1 f8_1_lt f8_1_c0 f8_1_c1 f8_1_c2 f8_1_c3 f8_1_c4 f8_3_lt f8_3_c0 f8_3_c1 f8_4_lt f8_4_c0 f8_4_c1 f8_5_lt f8_5_c0 f8_5_c1 m8_0 m8_1 m8_2 m8_3 m8_4 m8_5
                    have f9_0_lt := m9_0.lt
                    have f9_0_c0 := m9_0.c0
                    have f9_0_c1 := m9_0.c1
                    have f9_1_lt := m9_1.lt
                    have f9_1_c0 := m9_1.c0
                    have f9_1_c1 := m9_1.c1
                    have f9_1_c2 := m9_1.c2
                    have f9_1_c3 := m9_1.c3
                    have f9_1_c4 := m9_1.c4
                    have f9_3_lt := m9_3.lt
                    have f9_3_c0 := m9_3.c0
                    have f9_3_c1 := m9_3.c1
                    have f9_4_lt := m9_4.lt
                    have f9_4_c0 := m9_4.c0
                    have f9_4_c1 := m9_4.c1
                    have f9_5_lt := m9_5.lt
                    have f9_5_c0 := m9_5.c0
                    have f9_5_c1 := m9_5.c1
                    refine ((KCC.out _ (H0.out (by simp) (by simp))).out _ _ _ m9_3.sl m9_2).mono ?_; rintro e w' ⟨rfl, qf, rfl⟩
                    have hi := HIN.out
                    clear H6 H0 HIN
                    simp [cmpIn] at hi
                    subst hi
                    cases one
                    all_goals
                      go_wp2
                      all_goals
                        go_ret
                        exact gives_bool (by simp) (by (repeat' (first | (with_reducible assumption) | (with_reducible exact Below.refl _ _) | (with_reducible refine below_wov ?_ ?_ _) | (with_reducible refine below_drewN ?_ _) | (with_reducible refine Below.drew ?_) | (with_reducible refine Below.alloc ?_ ?_ _) | (with_reducible refine Below.setCell ?_ ?_ _) | (with_reducible exact Nat.le_refl _) | omega | (simp only [World.size_alloc, World.size_setCell, World.size_drew, Wov_size, World.heap_drewN]; omega))))
              · skip
                go_wp2_with (fail)
                refine calls_world (fun W => Below w.heap.size w W ∧ BoxM W w.heap.size na pa Na ca fa ∧ BoxS W (w.heap.size + 1) lo false hi hs true ∧ SlR W q M T ∧ BoxM W A1 y1 p1 Y1 c1 h1 ∧ PairAt W Z (a' * 2) u1 u2 ∧ BoxR W A2 lo 1) ⟨by (repeat' (first | (with_reducible assumption) | (with_reducible exact Below.refl _ _) | (with_reducible refine below_wov ?_ ?_ _) | (with_reducible refine below_drewN ?_ _) | (with_reducible refine Below.drew ?_) | (with_reducible refine Below.alloc ?_ ?_ _) | (with_reducible refine Below.setCell ?_ ?_ _) | (with_reducible exact Nat.le_refl _) | omega | (simp only [World.size_alloc, World.size_setCell, World.size_drew, Wov_size, World.heap_drewN]; omega))), m5_0.below (by (repeat' (first | (with_reducible assumption) | (with_reducible exact Below.refl _ _) | (with_reducible refine below_wov ?_ ?_ _) | (with_reducible refine below_drewN ?_ _) | (with_reducible refine Below.drew ?_) | (with_reducible refine Below.alloc ?_ ?_ _) | (with_reducible refine Below.setCell ?_ ?_ _) | (with_reducible exact Nat.le_refl _) | omega | (simp only [World.size_alloc, World.size_setCell, World.size_drew, Wov_size, World.heap_drewN]; omega)))), m5_1.below (by (repeat' (first | (with_reducible assumption) | (with_reducible exact Below.refl _ _) | (with_reducible refine below_wov ?_ ?_ _) | (with_reducible refine below_drewN ?_ _) | (with_reducible refine Below.drew ?_) | (with_reducible refine Below.alloc ?_ ?_ _) | (with_reducible refine Below.setCell ?_ ?_ _) | (with_reducible exact Nat.le_refl _) | omega | (simp only [World.size_alloc, World.size_setCell, World.size_drew, Wov_size, World.heap_drewN]; omega)))), m5_2.below (by (repeat' (first | (with_reducible assumption) | (with_reducible exact Below.refl _ _) | (with_reducible refine below_wov ?_ ?_ _) | (with_reducible refine below_drewN ?_ _) | (with_reducible refine Below.drew ?_) | (with_reducible refine Below.alloc ?_ ?_ _) | (with_reducible refine Below.setCell ?_ ?_ _) | (with_reducible exact Nat.le_refl _) | omega | (simp only [World.size_alloc, World.size_setCell, World.size_drew, Wov_size, World.heap_drewN]; omega)))), m5_3.below (by (repeat' (first | (with_reducible assumption) | (with_reducible exact Below.refl _ _) | (with_reducible refine below_wov ?_ ?_ _) | (with_reducible refine below_drewN ?_ _) | (with_reducible refine Below.drew ?_) | (with_reducible refine Below.alloc ?_ ?_ _) | (with_reducible refine Below.setCell ?_ ?_ _) | (with_reducible exact Nat.le_refl _) | omega | (simp only [World.size_alloc, World.size_setCell, World.size_drew, Wov_size, World.heap_drewN]; omega)))), m5_4.below (by (repeat' (first | (with_reducible assumption) | (with_reducible exact Below.refl _ _) | (with_reducible refine below_wov ?_ ?_ _) | (with_reducible refine below_drewN ?_ _) | (with_reducible refine Below.drew ?_) | (with_reducible refine Below.alloc ?_ ?_ _) | (with_reducible refine Below.setCell ?_ ?_ _) | (with_reducible exact Nat.le_refl _) | omega | (simp only [World.size_alloc, World.size_setCell, World.size_drew, Wov_size, World.heap_drewN]; omega)))), m5_5.below (by (repeat' (first | (with_reducible assumption) | (with_reducible exact Below.refl _ _) | (with_reducible refine below_wov ?_ ?_ _) | (with_reducible refine below_drewN ?_ _) | (with_reducible refine Below.drew ?_) | (with_reducible refine Below.alloc ?_ ?_ _) | (with_reducible refine Below.setCell ?_ ?_ _) | (with_reducible exact Nat.le_refl _) | omega | (simp only [World.size_alloc, World.size_setCell, World.size_drew, Wov_size, World.heap_drewN]; omega))))⟩ ?_
                rintro W6 ⟨hb6, m6_0, m6_1, m6_2, m6_3, m6_4, m6_5⟩
                clear hb5 f5_0_lt f5_0_c0 f5_0_c1 f5_1_lt f5_1_c0 f5_1_c1 f5_1_c2 f5_1_c3 f5_1_c4 f5_3_lt f5_3_c0 f5_3_c1 f5_4_lt f5_4_c0 f5_4_c1 f5_5_lt f5_5_c0 f5_5_c1 m5_0 m5_1 m5_2 m5_3 m5_4 m5_5
                have f6_0_lt := m6_0.lt
                have f6_0_c0 := m6_0.c0
                have f6_0_c1 := m6_0.c1
                have f6_1_lt := m6_1.lt
                have f6_1_c0 := m6_1.c0
                have f6_1_c1 := m6_1.c1
                have f6_1_c2 := m6_1.c2
                have f6_1_c3 := m6_1.c3
                have f6_1_c4 := m6_1.c4
                have f6_3_lt := m6_3.lt
                have f6_3_c0 := m6_3.c0
                have f6_3_c1 := m6_3.c1
                have f6_4_lt := m6_4.lt
                have f6_4_c0 := m6_4.c0
                have f6_4_c1 := m6_4.c1
                have f6_5_lt := m6_5.lt
                have f6_5_c0 := m6_5.c0
                have f6_5_c1 := m6_5.c1
                refine (CC.out _ _ _ m6_3.sl).mono ?_; rintro e w' ⟨rfl, qe, rfl⟩
                cases s1
                · skip
                  go_wp2
                  all_goals
                    go_ret
                    exact gives_bool (by simp) (by (repeat' (first | (with_reducible assumption) | (with_reducible exact Below.refl _ _) | (with_reducible refine below_wov ?_ ?_ _) | (with_reducible refine below_drewN ?_ _) | (with_reducible refine Below.drew ?_) | (with_reducible refine Below.alloc ?_ ?_ _) | (with_reducible refine Below.setCell ?_ ?_ _) | (with_reducible exact Nat.le_refl _) | omega | (simp only [World.size_alloc, World.size_setCell, World.size_drew, Wov_size, World.heap_drewN]; omega))))
                · skip
                  simp only [rcode, if_true]
                  go_wp2_with (fail)
                  refine calls_world (fun W => Below w.heap.size w W ∧ BoxM W w.heap.size na pa Na ca fa ∧ BoxS W (w.heap.size + 1) lo false hi hs true ∧ SlR W q M T ∧ BoxM W A1 y1 p1 Y1 c1 h1 ∧ PairAt W Z (a' * 2) u1 u2 ∧ BoxR W A2 lo 1) ⟨by (repeat' (first | (with_reducible assumption) | (with_reducible exact Below.refl _ _) | (with_reducible refine below_wov ?_ ?_ _) | (with_reducible refine below_drewN ?_ _) | (with_reducible refine Below.drew ?_) | (with_reducible refine Below.alloc ?_ ?_ _) | (with_reducible refine Below.setCell ?_ ?_ _) | (with_reducible exact Nat.le_refl _) | omega | (simp only [World.size_alloc, World.size_setCell, World.size_drew, Wov_size, World.heap_drewN]; omega))), m6_0.below (by (repeat' (first | (with_reducible assumption) | (with_reducible exact Below.refl _ _) | (with_reducible refine below_wov ?_ ?_ _) | (with_reducible refine below_drewN ?_ _) | (with_reducible refine Below.drew ?_) | (with_reducible refine Below.alloc ?_ ?_ _) | (with_reducible refine Below.setCell ?_ ?_ _) | (with_reducible exact Nat.le_refl _) | omega | (simp only [World.size_alloc, World.size_setCell, World.size_drew, Wov_size, World.heap_drewN]; omega)))), m6_1.below (by (repeat' (first | (with_reducible assumption) | (with_reducible exact Below.refl _ _) | (with_reducible refine below_wov ?_ ?_ _) | (with_reducible refine below_drewN ?_ _) | (with_reducible refine Below.drew ?_) | (with_reducible refine Below.alloc ?_ ?_ _) | (with_reducible refine Below.setCell ?_ ?_ _) | (with_reducible exact Nat.le_refl _) | omega | (simp only [World.size_alloc, World.size_setCell, World.size_drew, Wov_size, World.heap_drewN]; omega)))), m6_2.below (by (repeat' (first | (with_reducible assumption) | (with_reducible exact Below.refl _ _) | (with_reducible refine below_wov ?_ ?_ _) | (with_reducible refine below_drewN ?_ _) | (with_reducible refine Below.drew ?_) | (with_reducible refine Below.alloc ?_ ?_ _) | (with_reducible refine Below.setCell ?_ ?_ _) | (with_reducible exact Nat.le_refl _) | omega | (simp only [World.size_alloc, World.size_setCell, World.size_drew, Wov_size, World.heap_drewN]; omega)))), m6_3.below (by (repeat' (first | (with_reducible assumption) | (with_reducible exact Below.refl _ _) | (with_reducible refine below_wov ?_ ?_ _) | (with_reducible refine below_drewN ?_ _) | (with_reducible refine Below.drew ?_) | (with_reducible refine Below.alloc ?_ ?_ _) | (with_reducible refine Below.setCell ?_ ?_ _) | (with_reducible exact Nat.le_refl _) | omega | (simp only [World.size_alloc, World.size_setCell, World.size_drew, Wov_size, World.heap_drewN]; omega)))), m6_4.below (by (repeat' (first | (with_reducible assumption) | (with_reducible exact Below.refl _ _) | (with_reducible refine below_wov ?_ ?_ _) | (with_reducible refine below_drewN ?_ _) | (with_reducible refine Below.drew ?_) | (with_reducible refine Below.alloc ?_ ?_ _) | (with_reducible refine Below.setCell ?_ ?_ _) | (with_reducible exact Nat.le_refl _) | omega | (simp only [World.size_alloc, World.size_setCell, World.size_drew, Wov_size, World.heap_drewN]; omega)))), m6_5.below (by (repeat' (first | (with_reducible assumption) | (with_reducible exact Below.refl _ _) | (with_reducible refine below_wov ?_ ?_ _) | (with_reducible refine below_drewN ?_ _) | (with_reducible refine Below.drew ?_) | (with_reducible refine Below.alloc ?_ ?_ _) | (with_reducible refine Below.setCell ?_ ?_ _) | (with_reducible exact Nat.le_refl _) | omega | (simp only [World.size_alloc, World.size_setCell, World.size_drew, Wov_size, World.heap_drewN]; omega))))⟩ ?_
                  rintro W7 ⟨hb7, m7_0, m7_1, m7_2, m7_3, m7_4, m7_5⟩
                  clear hb6 f6_0_lt f6_0_c0 f6_0_c1 f6_1_lt f6_1_c0 f6_1_c1 f6_1_c2 f6_1_c3 f6_1_c4 f6_3_lt f6_3_c0 f6_3_c1 f6_4_lt f6_4_c0 f6_4_c1 f6_5_lt f6_5_c0 f6_5_c1 m6_0 m6_1 m6_2 m6_3 m6_4 m6_5
                  have f7_0_lt := m7_0.lt
                  have f7_0_c0 := m7_0.c0
                  have f7_0_c1 := m7_0.c1
                  have f7_1_lt := m7_1.lt
                  have f7_1_c0 := m7_1.c0
                  have f7_1_c1 := m7_1.c1
                  have f7_1_c2 := m7_1.c2
                  have f7_1_c3 := m7_1.c3
                  have f7_1_c4 := m7_1.c4
                  have f7_3_lt := m7_3.lt
                  have f7_3_c0 := m7_3.c0
                  have f7_3_c1 := m7_3.c1
                  have f7_4_lt := m7_4.lt
                  have f7_4_c0 := m7_4.c0
                  have f7_4_c1 := m7_4.c1
                  have f7_5_lt := m7_5.lt
                  have f7_5_c0 := m7_5.c0
                  have f7_5_c1 := m7_5.c1
                  refine ((KCC.out _ (H0.out (by simp) (by simp))).out _ _ _ m7_3.sl m7_2).mono ?_; rintro e w' ⟨rfl, qf, rfl⟩
                  have hi := HIN.out
                  clear H6 H0 HIN
                  simp [cmpIn] at hi
                  subst hi
                  cases one
                  all_goals
                    go_wp2
                    all_goals
                      go_ret
                      exact gives_bool (by simp) (by (repeat' (first | (with_reducible assumption) | (with_reducible exact Below.refl _ _) | (with_reducible refine below_wov ?_ ?_ _) | (with_reducible refine below_drewN ?_ _) | (with_reducible refine Below.drew ?_) | (with_reducible refine Below.alloc ?_ ?_ _) | (with_reducible refine Below.setCell ?_ ?_ _) | (with_reducible exact Nat.le_refl _) | omega | (simp only [World.size_alloc, World.size_setCell, World.size_drew, Wov_size, World.heap_drewN]; omega))))
            · skip
              cases op
              · skip
                go_wp2_with (fail)
                refine calls_world (fun W => Below w.heap.size w W ∧ BoxM W w.heap.size na pa Na ca fa ∧ BoxS W (w.heap.size + 1) lo true hi hs false ∧ SlR W q M T ∧ BoxM W A1 y1 p1 Y1 c1 h1 ∧ PairAt W Z (a' * 2) u1 u2) ⟨by (repeat' (first | (with_reducible assumption) | (with_reducible exact Below.refl _ _) | (with_reducible refine below_wov ?_ ?_ _) | (with_reducible refine below_drewN ?_ _) | (with_reducible refine Below.drew ?_) | (with_reducible refine Below.alloc ?_ ?_ _) | (with_reducible refine Below.setCell ?_ ?_ _) | (with_reducible exact Nat.le_refl _) | omega | (simp only [World.size_alloc, World.size_setCell, World.size_drew, Wov_size, World.heap_drewN]; omega))), m5_0.below (by (repeat' (first | (with_reducible assumption) | (with_reducible exact Below.refl _ _) | (with_reducible refine below_wov ?_ ?_ _) | (with_reducible refine below_drewN ?_ _) | (with_reducible refine Below.drew ?_) | (with_reducible refine Below.alloc ?_ ?_ _) | (with_reducible refine Below.setCell ?_ ?_ _) | (with_reducible exact Nat.le_refl _) | omega | (simp only [World.size_alloc, World.size_setCell, World.size_drew, Wov_size, World.heap_drewN]; omega)))), m5_1.below (by (repeat' (first | (with_reducible assumption) | (with_reducible exact Below.refl _ _) | (with_reducible refine below_wov ?_ ?_ _) | (with_reducible refine below_drewN ?_ _) | (with_reducible refine Below.drew ?_) | (with_reducible refine Below.alloc ?_ ?_ _) | (with_reducible refine Below.setCell ?_ ?_ _) | (with_reducible exact Nat.le_refl _) | omega | (simp only [World.size_alloc, World.size_setCell, World.size_drew, Wov_size, World.heap_drewN]; omega)))), m5_2.below (by (repeat' (first | (with_reducible assumption) | (with_reducible exact Below.refl _ _) | (with_reducible refine below_wov ?_ ?_ _) | (with_reducible refine below_drewN ?_ _) | (with_reducible refine Below.drew ?_) | (with_reducible refine Below.alloc ?_ ?_ _) | (with_reducible refine Below.setCell ?_ ?_ _) | (with_reducible exact Nat.le_refl _) | omega | (simp only [World.size_alloc, World.size_setCell, World.size_drew, Wov_size, World.heap_drewN]; omega)))), m5_3.below (by (repeat' (first | (with_reducible assumption) | (with_reducible exact Below.refl _ _) | (with_reducible refine below_wov ?_ ?_ _) | (with_reducible refine below_drewN ?_ _) | (with_reducible refine Below.drew ?_) | (with_reducible refine Below.alloc ?_ ?_ _) | (with_reducible refine Below.setCell ?_ ?_ _) | (with_reducible exact Nat.le_refl _) | omega | (simp only [World.size_alloc, World.size_setCell, World.size_drew, Wov_size, World.heap_drewN]; omega)))), m5_4.below (by (repeat' (first | (with_reducible assumption) | (with_reducible exact Below.refl _ _) | (with_reducible refine below_wov ?_ ?_ _) | (with_reducible refine below_drewN ?_ _) | (with_reducible refine Below.drew ?_) | (with_reducible refine Below.alloc ?_ ?_ _) | (with_reducible refine Below.setCell ?_ ?_ _) | (with_reducible exact Nat.le_refl _) | omega | (simp only [World.size_alloc, World.size_setCell, World.size_drew, Wov_size, World.heap_drewN]; omega))))⟩ ?_
                rintro W6 ⟨hb6, m6_0, m6_1, m6_2, m6_3, m6_4⟩
                clear hb5 f5_0_lt f5_0_c0 f5_0_c1 f5_1_lt f5_1_c0 f5_1_c1 f5_1_c2 f5_1_c3 f5_1_c4 f5_3_lt f5_3_c0 f5_3_c1 f5_4_lt f5_4_c0 f5_4_c1 f5_5_lt f5_5_c0 f5_5_c1 m5_0 m5_1 m5_2 m5_3 m5_4 m5_5
                have f6_0_lt := m6_0.lt
                have f6_0_c0 := m6_0.c0
                have f6_0_c1 := m6_0.c1
                have f6_1_lt := m6_1.lt
                have f6_1_c0 := m6_1.c0
                have f6_1_c1 := m6_1.c1
                have f6_1_c2 := m6_1.c2
                have f6_1_c3 := m6_1.c3
                have f6_1_c4 := m6_1.c4
                have f6_3_lt := m6_3.lt
                have f6_3_c0 := m6_3.c0
                have f6_3_c1 := m6_3.c1
                have f6_4_lt := m6_4.lt
                have f6_4_c0 := m6_4.c0
                have f6_4_c1 := m6_4.c1
                refine (OH.out _).mono ?_; rintro e w' ⟨rfl, q4, rfl⟩
                go_wp2_with (fail)
                obtain ⟨A3, hA3⟩ : ∃ A, W6.heap.size + q4.bl.size = A := ⟨_, rfl⟩
                rw [hA3]
                refine wp_world (fun W => Below w.heap.size w W ∧ BoxM W w.heap.size na pa Na ca fa ∧ BoxS W (w.heap.size + 1) lo true hi hs false ∧ SlR W q M T ∧ BoxM W A1 y1 p1 Y1 c1 h1 ∧ PairAt W Z (a' * 2) u1 u2 ∧ BoxR W A3 hi 1) ⟨by (repeat' (first | (with_reducible assumption) | (with_reducible exact Below.refl _ _) | (with_reducible refine below_wov ?_ ?_ _) | (with_reducible refine below_drewN ?_ _) | (with_reducible refine Below.drew ?_) | (with_reducible refine Below.alloc ?_ ?_ _) | (with_reducible refine Below.setCell ?_ ?_ _) | (with_reducible exact Nat.le_refl _) | omega | (simp only [World.size_alloc, World.size_setCell, World.size_drew, Wov_size, World.heap_drewN]; omega))), m6_0.below (by (repeat' (first | (with_reducible assumption) | (with_reducible exact Below.refl _ _) | (with_reducible refine below_wov ?_ ?_ _) | (with_reducible refine below_drewN ?_ _) | (with_reducible refine Below.drew ?_) | (with_reducible refine Below.alloc ?_ ?_ _) | (with_reducible refine Below.setCell ?_ ?_ _) | (with_reducible exact Nat.le_refl _) | omega | (simp only [World.size_alloc, World.size_setCell, World.size_drew, Wov_size, World.heap_drewN]; omega)))), m6_1.below (by (repeat' (first | (with_reducible assumption) | (with_reducible exact Below.refl _ _) | (with_reducible refine below_wov ?_ ?_ _) | (with_reducible refine below_drewN ?_ _) | (with_reducible refine Below.drew ?_) | (with_reducible refine Below.alloc ?_ ?_ _) | (with_reducible refine Below.setCell ?_ ?_ _) | (with_reducible exact Nat.le_refl _) | omega | (simp only [World.size_alloc, World.size_setCell, World.size_drew, Wov_size, World.heap_drewN]; omega)))), m6_2.below (by (repeat' (first | (with_reducible assumption) | (with_reducible exact Below.refl _ _) | (with_reducible refine below_wov ?_ ?_ _) | (with_reducible refine below_drewN ?_ _) | (with_reducible refine Below.drew ?_) | (with_reducible refine Below.alloc ?_ ?_ _) | (with_reducible refine Below.setCell ?_ ?_ _) | (with_reducible exact Nat.le_refl _) | omega | (simp only [World.size_alloc, World.size_setCell, World.size_drew, Wov_size, World.heap_drewN]; omega)))), m6_3.below (by (repeat' (first | (with_reducible assumption) | (with_reducible exact Below.refl _ _) | (with_reducible refine below_wov ?_ ?_ _) | (with_reducible refine below_drewN ?_ _) | (with_reducible refine Below.drew ?_) | (with_reducible refine Below.alloc ?_ ?_ _) | (with_reducible refine Below.setCell ?_ ?_ _) | (with_reducible exact Nat.le_refl _) | omega | (simp only [World.size_alloc, World.size_setCell, World.size_drew, Wov_size, World.heap_drewN]; omega)))), m6_4.below (by (repeat' (first | (with_reducible assumption) | (with_reducible exact Below.refl _ _) | (with_reducible refine below_wov ?_ ?_ _) | (with_reducible refine below_drewN ?_ _) | (with_reducible refine Below.drew ?_) | (with_reducible refine Below.alloc ?_ ?_ _) | (with_reducible refine Below.setCell ?_ ?_ _) | (with_reducible exact Nat.le_refl _) | omega | (simp only [World.size_alloc, World.size_setCell, World.size_drew, Wov_size, World.heap_drewN]; omega)))), BoxR.new (by rw [← hA3]; (try simp only [Wov_size]))⟩ ?_
                rintro W7 ⟨hb7, m7_0, m7_1, m7_2, m7_3, m7_4, m7_5⟩
                clear hb6 f6_0_lt f6_0_c0 f6_0_c1 f6_1_lt f6_1_c0 f6_1_c1 f6_1_c2 f6_1_c3 f6_1_c4 f6_3_lt f6_3_c0 f6_3_c1 f6_4_lt f6_4_c0 f6_4_c1 m6_0 m6_1 m6_2 m6_3 m6_4
                have f7_0_lt := m7_0.lt
                have f7_0_c0 := m7_0.c0
                have f7_0_c1 := m7_0.c1
                have f7_1_lt := m7_1.lt
                have f7_1_c0 := m7_1.c0
                have f7_1_c1 := m7_1.c1
                have f7_1_c2 := m7_1.c2
                have f7_1_c3 := m7_1.c3
                have f7_1_c4 := m7_1.c4
                have f7_3_lt := m7_3.lt
                have f7_3_c0 := m7_3.c0
                have f7_3_c1 := m7_3.c1
                have f7_4_lt := m7_4.lt
                have f7_4_c0 := m7_4.c0
                have f7_4_c1 := m7_4.c1
                have f7_5_lt := m7_5.lt
                have f7_5_c0 := m7_5.c0
                have f7_5_c1 := m7_5.c1
                refine wp_region_wov (by kernel_rfl) (by kernel_rfl) ?_
                repeat (go_big_quiet_step ((go_at_call 23; (first | exact (CM2.out).at _ _ | exact (CM2.out).at2 _ _ _ | exact (CM2.out).at3 _ _ _ _ | exact (CM2.out).at4 _ _ _ _ _ | exact (CM2.out).at5 _ _ _ _ _ _ | exact (CM2.out).at6 _ _ _ _ _ _ _))))
                refine wpQuiet_nil ?_
                rintro _ ⟨pq, rfl⟩
                rcases hm0 with rfl | rfl | rfl
                all_goals
                  go_wp2_with (fail)
                  refine calls_world (fun W => Below w.heap.size w W ∧ BoxM W w.heap.size na pa Na ca fa ∧ BoxS W (w.heap.size + 1) lo true hi hs false ∧ SlR W q M T ∧ BoxM W A1 y1 p1 Y1 c1 h1 ∧ PairAt W Z (a' * 2) u1 u2 ∧ BoxR W A3 hi 1) ⟨by (repeat' (first | (with_reducible assumption) | (with_reducible exact Below.refl _ _) | (with_reducible refine below_wov ?_ ?_ _) | (with_reducible refine below_drewN ?_ _) | (with_reducible refine Below.drew ?_) | (with_reducible refine Below.alloc ?_ ?_ _) | (with_reducible refine Below.setCell ?_ ?_ _) | (with_reducible exact Nat.le_refl _) | omega | (simp only [World.size_alloc, World.size_setCell, World.size_drew, Wov_size, World.heap_drewN]; omega))), m7_0.below (by (repeat' (first | (with_reducible assumption) | (with_reducible exact Below.refl _ _) | (with_reducible refine below_wov ?_ ?_ _) | (with_reducible refine below_drewN ?_ _) | (with_reducible refine Below.drew ?_) | (with_reducible refine Below.alloc ?_ ?_ _) | (with_reducible refine Below.setCell ?_ ?_ _) | (with_reducible exact Nat.le_refl _) | omega | (simp only [World.size_alloc, World.size_setCell, World.size_drew, Wov_size, World.heap_drewN]; omega)))), m7_1.below (by (repeat' (first | (with_reducible assumption) | (with_reducible exact Below.refl _ _) | (with_reducible refine below_wov ?_ ?_ _) | (with_reducible refine below_drewN ?_ _) | (with_reducible refine Below.drew ?_) | (with_reducible refine Below.alloc ?_ ?_ _) | (with_reducible refine Below.setCell ?_ ?_ _) | (with_reducible exact Nat.le_refl _) | omega | (simp only [World.size_alloc, World.size_setCell, World.size_drew, Wov_size, World.heap_drewN]; omega)))), m7_2.below (by (repeat' (first | (with_reducible assumption) | (with_reducible exact Below.refl _ _) | (with_reducible refine below_wov ?_ ?_ _) | (with_reducible refine below_drewN ?_ _) | (with_reducible refine Below.drew ?_) | (with_reducible refine Below.alloc ?_ ?_ _) | (with_reducible refine Below.setCell ?_ ?_ _) | (with_reducible exact Nat.le_refl _) | omega | (simp only [World.size_alloc, World.size_setCell, World.size_drew, Wov_size, World.heap_drewN]; omega)))), m7_3.below (by (repeat' (first | (with_reducible assumption) | (with_reducible exact Below.refl _ _) | (with_reducible refine below_wov ?_ ?_ _) | (with_reducible refine below_drewN ?_ _) | (with_reducible refine Below.drew ?_) | (with_reducible refine Below.alloc ?_ ?_ _) | (with_reducible refine Below.setCell ?_ ?_ _) | (with_reducible exact Nat.le_refl _) | omega | (simp only [World.size_alloc, World.size_setCell, World.size_drew, Wov_size, World.heap_drewN]; omega)))), m7_4.below (by (repeat' (first | (with_reducible assumption) | (with_reducible exact Below.refl _ _) | (with_reducible refine below_wov ?_ ?_ _) | (with_reducible refine below_drewN ?_ _) | (with_reducible refine Below.drew ?_) | (with_reducible refine Below.alloc ?_ ?_ _) | (with_reducible refine Below.setCell ?_ ?_ _) | (with_reducible exact Nat.le_refl _) | omega | (simp only [World.size_alloc, World.size_setCell, World.size_drew, Wov_size, World.heap_drewN]; omega)))), m7_5.below (by (repeat' (first | (with_reducible assumption) | (with_reducible exact Below.refl _ _) | (with_reducible refine below_wov ?_ ?_ _) | (with_reducible refine below_drewN ?_ _) | (with_reducible refine Below.drew ?_) | (with_reducible refine Below.alloc ?_ ?_ _) | (with_reducible refine Below.setCell ?_ ?_ _) | (with_reducible exact Nat.le_refl _) | omega | (simp only [World.size_alloc, World.size_setCell, World.size_drew, Wov_size, World.heap_drewN]; omega))))⟩ ?_
                  rintro W8 ⟨hb8, m8_0, m8_1, m8_2, m8_3, m8_4, m8_5⟩
                  clear hb7 f7_0_lt f7_0_c0 f7_0_c1 f7_1_lt f7_1_c0 f7_1_c1 f7_1_c2 f7_1_c3 f7_1_c4 f7_3_lt f7_3_c0 f7_3_c1 f7_4_lt f7_4_c0 f7_4_c1 f7_5_lt f7_5_c0 f7_5_c1 m7_0 m7_1 m7_2 m7_3 m7_4 m7_5
                  have f8_0_lt := m8_0.lt
                  have f8_0_c0 := m8_0.c0
                  have f8_0_c1 := m8_0.c1
                  have f8_1_lt := m8_1.lt
                  have f8_1_c0 := m8_1.c0
                  have f8_1_c1 := m8_1.c1
                  have f8_1_c2 := m8_1.c2
                  have f8_1_c3 := m8_1.c3
                  have f8_1_c4 := m8_1.c4
                  have f8_3_lt := m8_3.lt
                  have f8_3_c0 := m8_3.c0
                  have f8_3_c1 := m8_3.c1
                  have f8_4_lt := m8_4.lt
                  have f8_4_c0 := m8_4.c0
                  have f8_4_c1 := m8_4.c1
                  have f8_5_lt := m8_5.lt
                  have f8_5_c0 := m8_5.c0
                  have f8_5_c1 := m8_5.c1
                  refine (CC.out _ _ _ m8_3.sl).mono ?_; rintro e w' ⟨rfl, qe, rfl⟩
                  cases s1
                  · skip
                    go_wp2
                    all_goals
                      go_ret
                      exact gives_bool (by simp) (by (repeat' (first | (with_reducible assumption) | (with_reducible exact Below.refl _ _) | (with_reducible refine below_wov ?_ ?_ _) | (with_reducible refine below_drewN ?_ _) | (with_reducible refine Below.drew ?_) | (with_reducible refine Below.alloc ?_ ?_ _) | (with_reducible refine Below.setCell ?_ ?_ _) | (with_reducible exact Nat.le_refl _) | omega | (simp only [World.size_alloc, World.size_setCell, World.size_drew, Wov_size, World.heap_drewN]; omega))))
                  · skip
                    simp only [rcode, if_true]
                    go_wp2_with (fail)
                    refine calls_world (fun W => Below w.heap.size w W ∧ BoxM W w.heap.size na pa Na ca fa ∧ BoxS W (w.heap.size + 1) lo true hi hs false ∧ SlR W q M T ∧ BoxM W A1 y1 p1 Y1 c1 h1 ∧ PairAt W Z (a' * 2) u1 u2 ∧ BoxR W A3 hi 1) ⟨by (repeat' (first | (with_reducible assumption) | (with_reducible exact Below.refl _ _) | (with_reducible refine below_wov ?_ ?_ _) | (with_reducible refine below_drewN ?_ _) | (with_reducible refine Below.drew ?_) | (with_reducible refine Below.alloc ?_ ?_ _) | (with_reducible refine Below.setCell ?_ ?_ _) | (with_reducible exact Nat.le_refl _) | omega | (simp only [World.size_alloc, World.size_setCell, World.size_drew, Wov_size, World.heap_drewN]; omega))), m8_0.below (by (repeat' (first | (with_reducible assumption) | (with_reducible exact Below.refl _ _) | (with_reducible refine below_wov ?_ ?_ _) | (with_reducible refine below_drewN ?_ _) | (with_reducible refine Below.drew ?_) | (with_reducible refine Below.alloc ?_ ?_ _) | (with_reducible refine Below.setCell ?_ ?_ _) | (with_reducible exact Nat.le_refl _) | omega | (simp only [World.size_alloc, World.size_setCell, World.size_drew, Wov_size, World.heap_drewN]; omega)))), m8_1.below (by (repeat' (first | (with_reducible assumption) | (with_reducible exact Below.refl _ _) | (with_reducible refine below_wov ?_ ?_ _) | (with_reducible refine below_drewN ?_ _) | (with_reducible refine Below.drew ?_) | (with_reducible refine Below.alloc ?_ ?_ _) | (with_reducible refine Below.setCell ?_ ?_ _) | (with_reducible exact Nat.le_refl _) | omega | (simp only [World.size_alloc, World.size_setCell, World.size_drew, Wov_size, World.heap_drewN]; omega)))), m8_2.below (by (repeat' (first | (with_reducible assumption) | (with_reducible exact Below.refl _ _) | (with_reducible refine below_wov ?_ ?_ _) | (with_reducible refine below_drewN ?_ _) | (with_reducible refine Below.drew ?_) | (with_reducible refine Below.alloc ?_ ?_ _) | (with_reducible refine Below.setCell ?_ ?_ _) | (with_reducible exact Nat.le_refl _) | omega | (simp only [World.size_alloc, World.size_setCell, World.size_drew, Wov_size, World.heap_drewN]; omega)))), m8_3.below (by (repeat' (first | (with_reducible assumption) | (with_reducible exact Below.refl _ _) | (with_reducible refine below_wov ?_ ?_ _) | (with_reducible refine below_drewN ?_ _) | (with_reducible refine Below.drew ?_) | (with_reducible refine Below.alloc ?_ ?_ _) | (with_reducible refine Below.setCell ?_ ?_ _) | (with_reducible exact Nat.le_refl _) | omega | (simp only [World.size_alloc, World.size_setCell, World.size_drew, Wov_size, World.heap_drewN]; omega)))), m8_4.below (by (repeat' (first | (with_reducible assumption) | (with_reducible exact Below.refl _ _) | (with_reducible refine below_wov ?_ ?_ _) | (with_reducible refine below_drewN ?_ _) | (with_reducible refine Below.drew ?_) | (with_reducible refine Below.alloc ?_ ?_ _) | (with_reducible refine Below.setCell ?_ ?_ _) | (with_reducible exact Nat.le_refl _) | omega | (simp only [World.size_alloc, World.size_setCell, World.size_drew, Wov_size, World.heap_drewN]; omega)))), m8_5.below (by (repeat' (first | (with_reducible assumption) | (with_reducible exact Below.refl _ _) | (with_reducible refine below_wov ?_ ?_ _) | (with_reducible refine below_drewN ?_ _) | (with_reducible refine Below.drew ?_) | (with_reducible refine Below.alloc ?_ ?_ _) | (with_reducible refine Below.setCell ?_ ?_ _) | (with_reducible exact Nat.le_refl _) | omega | (simp only [World.size_alloc, World.size_setCell, World.size_drew, Wov_size, World.heap_drewN]; omega))))⟩ ?_
                    rintro W9 ⟨hb9, m9_0, m9_1, m9_2, m9_3, m9_4, m9_5⟩
                    clear hb8 f8_0_lt f8_0_c0 f8_0_c1 f8_1_lt f8_1_c0 f8_1_c1 f8_1_c2 f8_1_c3 f8_1_c4 f8_3_lt f8_3_c0 f8_3_c1 f8_4_lt f8_4_c0 f8_4_c1 f8_5_lt f8_5_c0 f8_5_c1 m8_0 m8_1 m8_2 m8_3 m8_4 m8_5
                    have f9_0_lt := m9_0.lt
                    have f9_0_c0 := m9_0.c0
                    have f9_0_c1 := m9_0.c1
                    have f9_1_lt := m9_1.lt
                    have f9_1_c0 := m9_1.c0
                    have f9_1_c1 := m9_1.c1
                    have f9_1_c2 := m9_1.c2
                    have f9_1_c3 := m9_1.c3
                    have f9_1_c4 := m9_1.c4
                    have f9_3_lt := m9_3.lt
                    have f9_3_c0 := m9_3.c0
                    have f9_3_c1 := m9_3.c1
                    have f9_4_lt := m9_4.lt
                    have f9_4_c0 := m9_4.c0
                    have f9_4_c1 := m9_4.c1
                    have f9_5_lt := m9_5.lt
                    have f9_5_c0 := m9_5.c0
                    have f9_5_c1 := m9_5.c1
                    refine ((KCC.out _ (H0.out (by simp) (by simp))).out _ _ _ m9_3.sl m9_2).mono ?_; rintro e w' ⟨rfl, qf, rfl⟩
                    have hi := HIN.out
                    clear H6 H0 HIN
                    simp [cmpIn] at hi
                    subst hi
                    cases one
                    all_goals
                      go_wp2
                      all_goals
                        go_ret
                        exact gives_bool (by simp) (by (repeat' (first | (with_reducible assumption) | (with_reducible exact Below.refl _ _) | (with_reducible refine below_wov ?_ ?_ _) | (with_reducible refine below_drewN ?_ _) | (with_reducible refine Below.drew ?_) | (with_reducible refine Below.alloc ?_ ?_ _) | (with_reducible refine Below.setCell ?_ ?_ _) | (with_reducible exact Nat.le_refl _) | omega | (simp only [World.size_alloc, World.size_setCell, World.size_drew, Wov_size, World.heap_drewN]; omega))))
              · skip
                go_wp2_with (fail)
                refine calls_world (fun W => Below w.heap.size w W ∧ BoxM W w.heap.size na pa Na ca fa ∧ BoxS W (w.heap.size + 1) lo true hi hs true ∧ SlR W q M T ∧ BoxM W A1 y1 p1 Y1 c1 h1 ∧ PairAt W Z (a' * 2) u1 u2 ∧ BoxR W A2 lo 1) ⟨by (repeat' (first | (with_reducible assumption) | (with_reducible exact Below.refl _ _) | (with_reducible refine below_wov ?_ ?_ _) | (with_reducible refine below_drewN ?_ _) | (with_reducible refine Below.drew ?_) | (with_reducible refine Below.alloc ?_ ?_ _) | (with_reducible refine Below.setCell ?_ ?_ _) | (with_reducible exact Nat.le_refl _) | omega | (simp only [World.size_alloc, World.size_setCell, World.size_drew, Wov_size, World.heap_drewN]; omega))), m5_0.below (by (repeat' (first | (with_reducible assumption) | (with_reducible exact Below.refl _ _) | (with_reducible refine below_wov ?_ ?_ _) | (with_reducible refine below_drewN ?_ _) | (with_reducible refine Below.drew ?_) | (with_reducible refine Below.alloc ?_ ?_ _) | (with_reducible refine Below.setCell ?_ ?_ _) | (with_reducible exact Nat.le_refl _) | omega | (simp only [World.size_alloc, World.size_setCell, World.size_drew, Wov_size, World.heap_drewN]; omega)))), m5_1.below (by (repeat' (first | (with_reducible assumption) | (with_reducible exact Below.refl _ _) | (with_reducible refine below_wov ?_ ?_ _) | (with_reducible refine below_drewN ?_ _) | (with_reducible refine Below.drew ?_) | (with_reducible refine Below.alloc ?_ ?_ _) | (with_reducible refine Below.setCell ?_ ?_ _) | (with_reducible exact Nat.le_refl _) | omega | (simp only [World.size_alloc, World.size_setCell, World.size_drew, Wov_size, World.heap_drewN]; omega)))), m5_2.below (by (repeat' (first | (with_reducible assumption) | (with_reducible exact Below.refl _ _) | (with_reducible refine below_wov ?_ ?_ _) | (with_reducible refine below_drewN ?_ _) | (with_reducible refine Below.drew ?_) | (with_reducible refine Below.alloc ?_ ?_ _) | (with_reducible refine Below.setCell ?_ ?_ _) | (with_reducible exact Nat.le_refl _) | omega | (simp only [World.size_alloc, World.size_setCell, World.size_drew, Wov_size, World.heap_drewN]; omega)))), m5_3.below (by (repeat' (first | (with_reducible assumption) | (with_reducible exact Below.refl _ _) | (with_reducible refine below_wov ?_ ?_ _) | (with_reducible refine below_drewN ?_ _) | (with_reducible refine Below.drew ?_) | (with_reducible refine Below.alloc ?_ ?_ _) | (with_reducible refine Below.setCell ?_ ?_ _) | (with_reducible exact Nat.le_refl _) | omega | (simp only [World.size_alloc, World.size_setCell, World.size_drew, Wov_size, World.heap_drewN]; omega)))), m5_4.below (by (repeat' (first | (with_reducible assumption) | (with_reducible exact Below.refl _ _) | (with_reducible refine below_wov ?_ ?_ _) | (with_reducible refine below_drewN ?_ _) | (with_reducible refine Below.drew ?_) | (with_reducible refine Below.alloc ?_ ?_ _) | (with_reducible refine Below.setCell ?_ ?_ _) | (with_reducible exact Nat.le_refl _) | omega | (simp only [World.size_alloc, World.size_setCell, World.size_drew, Wov_size, World.heap_drewN]; omega)))), m5_5.below (by (repeat' (first | (with_reducible assumption) | (with_reducible exact Below.refl _ _) | (with_reducible refine below_wov ?_ ?_ _) | (with_reducible refine below_drewN ?_ _) | (with_reducible refine Below.drew ?_) | (with_reducible refine Below.alloc ?_ ?_ _) | (with_reducible refine Below.setCell ?_ ?_ _) | (with_reducible exact Nat.le_refl _) | omega | (simp only [World.size_alloc, World.size_setCell, World.size_drew, Wov_size, World.heap_drewN]; omega))))⟩ ?_
                rintro W6 ⟨hb6, m6_0, m6_1, m6_2, m6_3, m6_4, m6_5⟩
                clear hb5 f5_0_lt f5_0_c0 f5_0_c1 f5_1_lt f5_1_c0 f5_1_c1 f5_1_c2 f5_1_c3 f5_1_c4 f5_3_lt f5_3_c0 f5_3_c1 f5_4_lt f5_4_c0 f5_4_c1 f5_5_lt f5_5_c0 f5_5_c1 m5_0 m5_1 m5_2 m5_3 m5_4 m5_5
                have f6_0_lt := m6_0.lt
                have f6_0_c0 := m6_0.c0
                have f6_0_c1 := m6_0.c1
                have f6_1_lt := m6_1.lt
                have f6_1_c0 := m6_1.c0
                have f6_1_c1 := m6_1.c1
                have f6_1_c2 := m6_1.c2
                have f6_1_c3 := m6_1.c3
                have f6_1_c4 := m6_1.c4
                have f6_3_lt := m6_3.lt
                have f6_3_c0 := m6_3.c0
                have f6_3_c1 := m6_3.c1
                have f6_4_lt := m6_4.lt
                have f6_4_c0 := m6_4.c0
                have f6_4_c1 := m6_4.c1
                have f6_5_lt := m6_5.lt
                have f6_5_c0 := m6_5.c0
                have f6_5_c1 := m6_5.c1
                refine (CC.out _ _ _ m6_3.sl).mono ?_; rintro e w' ⟨rfl, qe, rfl⟩
                cases s1
                · skip
                  go_wp2
                  all_goals
                    go_ret
                    exact gives_bool (by simp) (by (repeat' (first | (with_reducible assumption) | (with_reducible exact Below.refl _ _) | (with_reducible refine below_wov ?_ ?_ _) | (with_reducible refine below_drewN ?_ _) | (with_reducible refine Below.drew ?_) | (with_reducible refine Below.alloc ?_ ?_ _) | (with_reducible refine Below.setCell ?_ ?_ _) | (with_reducible exact Nat.le_refl _) | omega | (simp only [World.size_alloc, World.size_setCell, World.size_drew, Wov_size, World.heap_drewN]; omega))))
                · skip
                  simp only [rcode, if_true]
                  go_wp2_with (fail)
                  refine calls_world (fun W => Below w.heap.size w W ∧ BoxM W w.heap.size na pa Na ca fa ∧ BoxS W (w.heap.size + 1) lo true hi hs true ∧ SlR W q M T ∧ BoxM W A1 y1 p1 Y1 c1 h1 ∧ PairAt W Z (a' * 2) u1 u2 ∧ BoxR W A2 lo 1) ⟨by (repeat' (first | (with_reducible assumption) | (with_reducible exact Below.refl _ _) | (with_reducible refine below_wov ?_ ?_ _) | (with_reducible refine below_drewN ?_ _) | (with_reducible refine Below.drew ?_) | (with_reducible refine Below.alloc ?_ ?_ _) | (with_reducible refine Below.setCell ?_ ?_ _) | (with_reducible exact Nat.le_refl _) | omega | (simp only [World.size_alloc, World.size_setCell, World.size_drew, Wov_size, World.heap_drewN]; omega))), m6_0.below (by (repeat' (first | (with_reducible assumption) | (with_reducible exact Below.refl _ _) | (with_reducible refine below_wov ?_ ?_ _) | (with_reducible refine below_drewN ?_ _) | (with_reducible refine Below.drew ?_) | (with_reducible refine Below.alloc ?_ ?_ _) | (with_reducible refine Below.setCell ?_ ?_ _) | (with_reducible exact Nat.le_refl _) | omega | (simp only [World.size_alloc, World.size_setCell, World.size_drew, Wov_size, World.heap_drewN]; omega)))), m6_1.below (by (repeat' (first | (with_reducible assumption) | (with_reducible exact Below.refl _ _) | (with_reducible refine below_wov ?_ ?_ _) | (with_reducible refine below_drewN ?_ _) | (with_reducible refine Below.drew ?_) | (with_reducible refine Below.alloc ?_ ?_ _) | (with_reducible refine Below.setCell ?_ ?_ _) | (with_reducible exact Nat.le_refl _) | omega | (simp only [World.size_alloc, World.size_setCell, World.size_drew, Wov_size, World.heap_drewN]; omega)))), m6_2.below (by (repeat' (first | (with_reducible assumption) | (with_reducible exact Below.refl _ _) | (with_reducible refine below_wov ?_ ?_ _) | (with_reducible refine below_drewN ?_ _) | (with_reducible refine Below.drew ?_) | (with_reducible refine Below.alloc ?_ ?_ _) | (with_reducible refine Below.setCell ?_ ?_ _) | (with_reducible exact Nat.le_refl _) | omega | (simp only [World.size_alloc, World.size_setCell, World.size_drew, Wov_size, World.heap_drewN]; omega)))), m6_3.below (by (repeat' (first | (with_reducible assumption) | (with_reducible exact Below.refl _ _) | (with_reducible refine below_wov ?_ ?_ _) | (with_reducible refine below_drewN ?_ _) | (with_reducible refine Below.drew ?_) | (with_reducible refine Below.alloc ?_ ?_ _) | (with_reducible refine Below.setCell ?_ ?_ _) | (with_reducible exact Nat.le_refl _) | omega | (simp only [World.size_alloc, World.size_setCell, World.size_drew, Wov_size, World.heap_drewN]; omega)))), m6_4.below (by (repeat' (first | (with_reducible assumption) | (with_reducible exact Below.refl _ _) | (with_reducible refine below_wov ?_ ?_ _) | (with_reducible refine below_drewN ?_ _) | (with_reducible refine Below.drew ?_) | (with_reducible refine Below.alloc ?_ ?_ _) | (with_reducible refine Below.setCell ?_ ?_ _) | (with_reducible exact Nat.le_refl _) | omega | (simp only [World.size_alloc, World.size_setCell, World.size_drew, Wov_size, World.heap_drewN]; omega)))), m6_5.below (by (repeat' (first | (with_reducible assumption) | (with_reducible exact Below.refl _ _) | (with_reducible refine below_wov ?_ ?_ _) | (with_reducible refine below_drewN ?_ _) | (with_reducible refine Below.drew ?_) | (with_reducible refine Below.alloc ?_ ?_ _) | (with_reducible refine Below.setCell ?_ ?_ _) | (with_reducible exact Nat.le_refl _) | omega | (simp only [World.size_alloc, World.size_setCell, World.size_drew, Wov_size, World.heap_drewN]; omega))))⟩ ?_
                  rintro W7 ⟨hb7, m7_0, m7_1, m7_2, m7_3, m7_4, m7_5⟩
                  clear hb6 f6_0_lt f6_0_c0 f6_0_c1 f6_1_lt f6_1_c0 f6_1_c1 f6_1_c2 f6_1_c3 f6_1_c4 f6_3_lt f6_3_c0 f6_3_c1 f6_4_lt f6_4_c0 f6_4_c1 f6_5_lt f6_5_c0 f6_5_c1 m6_0 m6_1 m6_2 m6_3 m6_4 m6_5
                  have f7_0_lt := m7_0.lt
                  have f7_0_c0 := m7_0.c0
                  have f7_0_c1 := m7_0.c1
                  have f7_1_lt := m7_1.lt
                  have f7_1_c0 := m7_1.c0
                  have f7_1_c1 := m7_1.c1
                  have f7_1_c2 := m7_1.c2
                  have f7_1_c3 := m7_1.c3
                  have f7_1_c4 := m7_1.c4
                  have f7_3_lt := m7_3.lt
                  have f7_3_c0 := m7_3.c0
                  have f7_3_c1 := m7_3.c1
                  have f7_4_lt := m7_4.lt
                  have f7_4_c0 := m7_4.c0
                  have f7_4_c1 := m7_4.c1
                  have f7_5_lt := m7_5.lt
                  have f7_5_c0 := m7_5.c0
                  have f7_5_c1 := m7_5.c1
                  refine ((KCC.out _ (H0.out (by simp) (by simp))).out _ _ _ m7_3.sl m7_2).mono ?_; rintro e w' ⟨rfl, qf, rfl⟩
                  have hi := HIN.out
                  clear H6 H0 HIN
                  simp [cmpIn] at hi
                  subst hi
                  cases one
                  all_goals
                    go_wp2
                    all_goals
                      go_ret
                      exact gives_bool (by simp) (by (repeat' (first | (with_reducible assumption) | (with_reducible exact Below.refl _ _) | (with_reducible refine below_wov ?_ ?_ _) | (with_reducible refine below_drewN ?_ _) | (with_reducible refine Below.drew ?_) | (with_reducible refine Below.alloc ?_ ?_ _) | (with_reducible refine Below.setCell ?_ ?_ _) | (with_reducible exact Nat.le_refl _) | omega | (simp only [World.size_alloc, World.size_setCell, World.size_drew, Wov_size, World.heap_drewN]; omega))))
          · skip
            cases op
            · skip
              go_wp2_with (fail)
              refine calls_world (fun W => Below w.heap.size w W ∧ BoxM W w.heap.size na pa Na ca fa ∧ BoxS W (w.heap.size + 1) lo ls hi hs false ∧ SlR W q M T ∧ BoxM W A1 y1 p1 Y1 c1 h1 ∧ PairAt W Z (a' * 2) u1 u2) ⟨by (repeat' (first | (with_reducible assumption) | (with_reducible exact Below.refl _ _) | (with_reducible refine below_wov ?_ ?_ _) | (with_reducible refine below_drewN ?_ _) | (with_reducible refine Below.drew ?_) | (with_reducible refine Below.alloc ?_ ?_ _) | (with_reducible refine Below.setCell ?_ ?_ _) | (with_reducible exact Nat.le_refl _) | omega | (simp only [World.size_alloc, World.size_setCell, World.size_drew, Wov_size, World.heap_drewN]; omega))), m5_0.below (by (repeat' (first | (with_reducible assumption) | (with_reducible exact Below.refl _ _) | (with_reducible refine below_wov ?_ ?_ _) | (with_reducible refine below_drewN ?_ _) | (with_reducible refine Below.drew ?_) | (with_reducible refine Below.alloc ?_ ?_ _) | (with_reducible refine Below.setCell ?_ ?_ _) | (with_reducible exact Nat.le_refl _) | omega | (simp only [World.size_alloc, World.size_setCell, World.size_drew, Wov_size, World.heap_drewN]; omega)))), m5_1.below (by (repeat' (first | (with_reducible assumption) | (with_reducible exact Below.refl _ _) | (with_reducible refine below_wov ?_ ?_ _) | (with_reducible refine below_drewN ?_ _) | (with_reducible refine Below.drew ?_) | (with_reducible refine Below.alloc ?_ ?_ _) | (with_reducible refine Below.setCell ?_ ?_ _) | (with_reducible exact Nat.le_refl _) | omega | (simp only [World.size_alloc, World.size_setCell, World.size_drew, Wov_size, World.heap_drewN]; omega)))), m5_2.below (by (repeat' (first | (with_reducible assumption) | (with_reducible exact Below.refl _ _) | (with_reducible refine below_wov ?_ ?_ _) | (with_reducible refine below_drewN ?_ _) | (with_reducible refine Below.drew ?_) | (with_reducible refine Below.alloc ?_ ?_ _) | (with_reducible refine Below.setCell ?_ ?_ _) | (with_reducible exact Nat.le_refl _) | omega | (simp only [World.size_alloc, World.size_setCell, World.size_drew, Wov_size, World.heap_drewN]; omega)))), m5_3.below (by (repeat' (first | (with_reducible assumption) | (with_reducible exact Below.refl _ _) | (with_reducible refine below_wov ?_ ?_ _) | (with_reducible refine below_drewN ?_ _) | (with_reducible refine Below.drew ?_) | (with_reducible refine Below.alloc ?_ ?_ _) | (with_reducible refine Below.setCell ?_ ?_ _) | (with_reducible exact Nat.le_refl _) | omega | (simp only [World.size_alloc, World.size_setCell, World.size_drew, Wov_size, World.heap_drewN]; omega)))), m5_4.below (by (repeat' (first | (with_reducible assumption) | (with_reducible exact Below.refl _ _) | (with_reducible refine below_wov ?_ ?_ _) | (with_reducible refine below_drewN ?_ _) | (with_reducible refine Below.drew ?_) | (with_reducible refine Below.alloc ?_ ?_ _) | (with_reducible refine Below.setCell ?_ ?_ _) | (with_reducible exact Nat.le_refl _) | omega | (simp only [World.size_alloc, World.size_setCell, World.size_drew, Wov_size, World.heap_drewN]; omega))))⟩ ?_
              rintro W6 ⟨hb6, m6_0, m6_1, m6_2, m6_3, m6_4⟩
              clear hb5 f5_0_lt f5_0_c0 f5_0_c1 f5_1_lt f5_1_c0 f5_1_c1 f5_1_c2 f5_1_c3 f5_1_c4 f5_3_lt f5_3_c0 f5_3_c1 f5_4_lt f5_4_c0 f5_4_c1 f5_5_lt f5_5_c0 f5_5_c1 m5_0 m5_1 m5_2 m5_3 m5_4 m5_5
              have f6_0_lt := m6_0.lt
              have f6_0_c0 := m6_0.c0
              have f6_0_c1 := m6_0.c1
              have f6_1_lt := m6_1.lt
              have f6_1_c0 := m6_1.c0
              have f6_1_c1 := m6_1.c1
              have f6_1_c2 := m6_1.c2
              have f6_1_c3 := m6_1.c3
              have f6_1_c4 := m6_1.c4
              have f6_3_lt := m6_3.lt
              have f6_3_c0 := m6_3.c0
              have f6_3_c1 := m6_3.c1
              have f6_4_lt := m6_4.lt
              have f6_4_c0 := m6_4.c0
              have f6_4_c1 := m6_4.c1
              refine (OH.out _).mono ?_; rintro e w' ⟨rfl, q4, rfl⟩
              go_wp2_with (fail)
              obtain ⟨A3, hA3⟩ : ∃ A, W6.heap.size + q4.bl.size = A := ⟨_, rfl⟩
              rw [hA3]
              refine wp_world (fun W => Below w.heap.size w W ∧ BoxM W w.heap.size na pa Na ca fa ∧ BoxS W (w.heap.size + 1) lo ls hi hs false ∧ SlR W q M T ∧ BoxM W A1 y1 p1 Y1 c1 h1 ∧ PairAt W Z (a' * 2) u1 u2 ∧ BoxR W A3 hi 1) ⟨by (repeat' (first | (with_reducible assumption) | (with_reducible exact Below.refl _ _) | (with_reducible refine below_wov ?_ ?_ _) | (with_reducible refine below_drewN ?_ _) | (with_reducible refine Below.drew ?_) | (with_reducible refine Below.alloc ?_ ?_ _) | (with_reducible refine Below.setCell ?_ ?_ _) | (with_reducible exact Nat.le_refl _) | omega | (simp only [World.size_alloc, World.size_setCell, World.size_drew, Wov_size, World.heap_drewN]; omega))), m6_0.below (by (repeat' (first | (with_reducible assumption) | (with_reducible exact Below.refl _ _) | (with_reducible refine below_wov ?_ ?_ _) | (with_reducible refine below_drewN ?_ _) | (with_reducible refine Below.drew ?_) | (with_reducible refine Below.alloc ?_ ?_ _) | (with_reducible refine Below.setCell ?_ ?_ _) | (with_reducible exact Nat.le_refl _) | omega | (simp only [World.size_alloc, World.size_setCell, World.size_drew, Wov_size, World.heap_drewN]; omega)))), m6_1.below (by (repeat' (first | (with_reducible assumption) | (with_reducible exact Below.refl _ _) | (with_reducible refine below_wov ?_ ?_ _) | (with_reducible refine below_drewN ?_ _) | (with_reducible refine Below.drew ?_) | (with_reducible refine Below.alloc ?_ ?_ _) | (with_reducible refine Below.setCell ?_ ?_ _) | (with_reducible exact Nat.le_refl _) | omega | (simp only [World.size_alloc, World.size_setCell, World.size_drew, Wov_size, World.heap_drewN]; omega)))), m6_2.below (by (repeat' (first | (with_reducible assumption) | (with_reducible exact Below.refl _ _) | (with_reducible refine below_wov ?_ ?_ _) | (with_reducible refine below_drewN ?_ _) | (with_reducible refine Below.drew ?_) | (with_reducible refine Below.alloc ?_ ?_ _) | (with_reducible refine Below.setCell ?_ ?_ _) | (with_reducible exact Nat.le_refl _) | omega | (simp only [World.size_alloc, World.size_setCell, World.size_drew, Wov_size, World.heap_drewN]; omega)))), m6_3.below (by (repeat' (first | (with_reducible assumption) | (with_reducible exact Below.refl _ _) | (with_reducible refine below_wov ?_ ?_ _) | (with_reducible refine below_drewN ?_ _) | (with_reducible refine Below.drew ?_) | (with_reducible refine Below.alloc ?_ ?_ _) | (with_reducible refine Below.setCell ?_ ?_ _) | (with_reducible exact Nat.le_refl _) | omega | (simp only [World.size_alloc, World.size_setCell, World.size_drew, Wov_size, World.heap_drewN]; omega)))), m6_4.below (by (repeat' (first | (with_reducible assumption) | (with_reducible exact Below.refl _ _) | (with_reducible refine below_wov ?_ ?_ _) | (with_reducible refine below_drewN ?_ _) | (with_reducible refine Below.drew ?_) | (with_reducible refine Below.alloc ?_ ?_ _) | (with_reducible refine Below.setCell ?_ ?_ _) | (with_reducible exact Nat.le_refl _) | omega | (simp only [World.size_alloc, World.size_setCell, World.size_drew, Wov_size, World.heap_drewN]; omega)))), BoxR.new (by rw [← hA3]; (try simp only [Wov_size]))⟩ ?_
              rintro W7 ⟨hb7, m7_0, m7_1, m7_2, m7_3, m7_4, m7_5⟩
              clear hb6 f6_0_lt f6_0_c0 f6_0_c1 f6_1_lt f6_1_c0 f6_1_c1 f6_1_c2 f6_1_c3 f6_1_c4 f6_3_lt f6_3_c0 f6_3_c1 f6_4_lt f6_4_c0 f6_4_c1 m6_0 m6_1 m6_2 m6_3 m6_4
              have f7_0_lt := m7_0.lt
              have f7_0_c0 := m7_0.c0
              have f7_0_c1 := m7_0.c1
              have f7_1_lt := m7_1.lt
              have f7_1_c0 := m7_1.c0
              have f7_1_c1 := m7_1.c1
              have f7_1_c2 := m7_1.c2
              have f7_1_c3 := m7_1.c3
              have f7_1_c4 := m7_1.c4
              have f7_3_lt := m7_3.lt
              have f7_3_c0 := m7_3.c0
              have f7_3_c1 := m7_3.c1
              have f7_4_lt := m7_4.lt
              have f7_4_c0 := m7_4.c0
              have f7_4_c1 := m7_4.c1
              have f7_5_lt := m7_5.lt
              have f7_5_c0 := m7_5.c0
              have f7_5_c1 := m7_5.c1
              refine wp_region_wov (by kernel_rfl) (by kernel_rfl) ?_
              repeat (go_big_quiet_step ((go_at_call 23; (first | exact (CM2.out).at _ _ | exact (CM2.out).at2 _ _ _ | exact (CM2.out).at3 _ _ _ _ | exact (CM2.out).at4 _ _ _ _ _ | exact (CM2.out).at5 _ _ _ _ _ _ | exact (CM2.out).at6 _ _ _ _ _ _ _))))
              refine wpQuiet_nil ?_
              rintro _ ⟨pq, rfl⟩
              rcases hm0 with rfl | rfl | rfl
              all_goals
                go_wp2_with (fail)
                refine calls_world (fun W => Below w.heap.size w W ∧ BoxM W w.heap.size na pa Na ca fa ∧ BoxS W (w.heap.size + 1) lo ls hi hs false ∧ SlR W q M T ∧ BoxM W A1 y1 p1 Y1 c1 h1 ∧ PairAt W Z (a' * 2) u1 u2 ∧ BoxR W A3 hi 1) ⟨by (repeat' (first | (with_reducible assumption) | (with_reducible exact Below.refl _ _) | (with_reducible refine below_wov ?_ ?_ _) | (with_reducible refine below_drewN ?_ _) | (with_reducible refine Below.drew ?_) | (with_reducible refine Below.alloc ?_ ?_ _) | (with_reducible refine Below.setCell ?_ ?_ _) | (with_reducible exact Nat.le_refl _) | omega | (simp only [World.size_alloc, World.size_setCell, World.size_drew, Wov_size, World.heap_drewN]; omega))), m7_0.below (by (repeat' (first | (with_reducible assumption) | (with_reducible exact Below.refl _ _) | (with_reducible refine below_wov ?_ ?_ _) | (with_reducible refine below_drewN ?_ _) | (with_reducible refine Below.drew ?_) | (with_reducible refine Below.alloc ?_ ?_ _) | (with_reducible refine Below.setCell ?_ ?_ _) | (with_reducible exact Nat.le_refl _) | omega | (simp only [World.size_alloc, World.size_setCell, World.size_drew, Wov_size, World.heap_drewN]; omega)))), m7_1.below (by (repeat' (first | (with_reducible assumption) | (with_reducible exact Below.refl _ _) | (with_reducible refine below_wov ?_ ?_ _) | (with_reducible refine below_drewN ?_ _) | (with_reducible refine Below.drew ?_) | (with_reducible refine Below.alloc ?_ ?_ _) | (with_reducible refine Below.setCell ?_ ?_ _) | (with_reducible exact Nat.le_refl _) | omega | (simp only [World.size_alloc, World.size_setCell, World.size_drew, Wov_size, World.heap_drewN]; omega)))), m7_2.below (by (repeat' (first | (with_reducible assumption) | (with_reducible exact Below.refl _ _) | (with_reducible refine below_wov ?_ ?_ _) | (with_reducible refine below_drewN ?_ _) | (with_reducible refine Below.drew ?_) | (with_reducible refine Below.alloc ?_ ?_ _) | (with_reducible refine Below.setCell ?_ ?_ _) | (with_reducible exact Nat.le_refl _) | omega | (simp only [World.size_alloc, World.size_setCell, World.size_drew, Wov_size, World.heap_drewN]; omega)))), m7_3.below (by (repeat' (first | (with_reducible assumption) | (with_reducible exact Below.refl _ _) | (with_reducible refine below_wov ?_ ?_ _) | (with_reducible refine below_drewN ?_ _) | (with_reducible refine Below.drew ?_) | (with_reducible refine Below.alloc ?_ ?_ _) | (with_reducible refine Below.setCell ?_ ?_ _) | (with_reducible exact Nat.le_refl _) | omega | (simp only [World.size_alloc, World.size_setCell, World.size_drew, Wov_size, World.heap_drewN]; omega)))), m7_4.below (by (repeat' (first | (with_reducible assumption) | (with_reducible exact Below.refl _ _) | (with_reducible refine below_wov ?_ ?_ _) | (with_reducible refine below_drewN ?_ _) | (with_reducible refine Below.drew ?_) | (with_reducible refine Below.alloc ?_ ?_ _) | (with_reducible refine Below.setCell ?_ ?_ _) | (with_reducible exact Nat.le_refl _) | omega | (simp only [World.size_alloc, World.size_setCell, World.size_drew, Wov_size, World.heap_drewN]; omega)))), m7_5.below (by (repeat' (first | (with_reducible assumption) | (with_reducible exact Below.refl _ _) | (with_reducible refine below_wov ?_ ?_ _) | (with_reducible refine below_drewN ?_ _) | (with_reducible refine Below.drew ?_) | (with_reducible refine Below.alloc ?_ ?_ _) | (with_reducible refine Below.setCell ?_ ?_ _) | (with_reducible exact Nat.le_refl _) | omega | (simp only [World.size_alloc, World.size_setCell, World.size_drew, Wov_size, World.heap_drewN]; omega))))⟩ ?_
                rintro W8 ⟨hb8, m8_0, m8_1, m8_2, m8_3, m8_4, m8_5⟩
                clear hb7 f7_0_lt f7_0_c0 f7_0_c1 f7_1_lt f7_1_c0 f7_1_c1 f7_1_c2 f7_1_c3 f7_1_c4 f7_3_lt f7_3_c0 f7_3_c1 f7_4_lt f7_4_c0 f7_4_c1 f7_5_lt f7_5_c0 f7_5_c1 m7_0 m7_1 m7_2 m7_3 m7_4 m7_5
                have f8_0_lt := m8_0.lt
                have f8_0_c0 := m8_0.c0
                have f8_0_c1 := m8_0.c1
                have f8_1_lt := m8_1.lt
                have f8_1_c0 := m8_1.c0
                have f8_1_c1 := m8_1.c1
                have f8_1_c2 := m8_1.c2
                have f8_1_c3 := m8_1.c3
                have f8_1_c4 := m8_1.c4
                have f8_3_lt := m8_3.lt
                have f8_3_c0 := m8_3.c0
                have f8_3_c1 := m8_3.c1
                have f8_4_lt := m8_4.lt
                have f8_4_c0 := m8_4.c0
                have f8_4_c1 := m8_4.c1
                have f8_5_lt := m8_5.lt
                have f8_5_c0 := m8_5.c0
                have f8_5_c1 := m8_5.c1
                refine (CC.out _ _ _ m8_3.sl).mono ?_; rintro e w' ⟨rfl, qe, rfl⟩
                cases s1
                · skip
                  go_wp2
                  all_goals
                    go_ret
                    exact gives_bool (by simp) (by (repeat' (first | (with_reducible assumption) | (with_reducible exact Below.refl _ _) | (with_reducible refine below_wov ?_ ?_ _) | (with_reducible refine below_drewN ?_ _) | (with_reducible refine Below.drew ?_) | (with_reducible refine Below.alloc ?_ ?_ _) | (with_reducible refine Below.setCell ?_ ?_ _) | (with_reducible exact Nat.le_refl _) | omega | (simp only [World.size_alloc, World.size_setCell, World.size_drew, Wov_size, World.heap_drewN]; omega))))
                · skip
                  simp only [rcode, if_true]
                  go_wp2_with (fail)
                  refine calls_world (fun W => Below w.heap.size w W ∧ BoxM W w.heap.size na pa Na ca fa ∧ BoxS W (w.heap.size + 1) lo ls hi hs false ∧ SlR W q M T ∧ BoxM W A1 y1 p1 Y1 c1 h1 ∧ PairAt W Z (a' * 2) u1 u2 ∧ BoxR W A3 hi 1) ⟨by (repeat' (first | (with_reducible assumption) | (with_reducible exact Below.refl _ _) | (with_reducible refine below_wov ?_ ?_ _) | (with_reducible refine below_drewN ?_ _) | (with_reducible refine Below.drew ?_) | (with_reducible refine Below.alloc ?_ ?_ _) | (with_reducible refine Below.setCell ?_ ?_ _) | (with_reducible exact Nat.le_refl _) | omega | (simp only [World.size_alloc, World.size_setCell, World.size_drew, Wov_size, World.heap_drewN]; omega))), m8_0.below (by (repeat' (first | (with_reducible assumption) | (with_reducible exact Below.refl _ _) | (with_reducible refine below_wov ?_ ?_ _) | (with_reducible refine below_drewN ?_ _) | (with_reducible refine Below.drew ?_) | (with_reducible refine Below.alloc ?_ ?_ _) | (with_reducible refine Below.setCell ?_ ?_ _) | (with_reducible exact Nat.le_refl _) | omega | (simp only [World.size_alloc, World.size_setCell, World.size_drew, Wov_size, World.heap_drewN]; omega)))), m8_1.below (by (repeat' (first | (with_reducible assumption) | (with_reducible exact Below.refl _ _) | (with_reducible refine below_wov ?_ ?_ _) | (with_reducible refine below_drewN ?_ _) | (with_reducible refine Below.drew ?_) | (with_reducible refine Below.alloc ?_ ?_ _) | (with_reducible refine Below.setCell ?_ ?_ _) | (with_reducible exact Nat.le_refl _) | omega | (simp only [World.size_alloc, World.size_setCell, World.size_drew, Wov_size, World.heap_drewN]; omega)))), m8_2.below (by (repeat' (first | (with_reducible assumption) | (with_reducible exact Below.refl _ _) | (with_reducible refine below_wov ?_ ?_ _) | (with_reducible refine below_drewN ?_ _) | (with_reducible refine Below.drew ?_) | (with_reducible refine Below.alloc ?_ ?_ _) | (with_reducible refine Below.setCell ?_ ?_ _) | (with_reducible exact Nat.le_refl _) | omega | (simp only [World.size_alloc, World.size_setCell, World.size_drew, Wov_size, World.heap_drewN]; omega)))), m8_3.below (by (repeat' (first | (with_reducible assumption) | (with_reducible exact Below.refl _ _) | (with_reducible refine below_wov ?_ ?_ _) | (with_reducible refine below_drewN ?_ _) | (with_reducible refine Below.drew ?_) | (with_reducible refine Below.alloc ?_ ?_ _) | (with_reducible refine Below.setCell ?_ ?_ _) | (with_reducible exact Nat.le_refl _) | omega | (simp only [World.size_alloc, World.size_setCell, World.size_drew, Wov_size, World.heap_drewN]; omega)))), m8_4.below (by (repeat' (first | (with_reducible assumption) | (with_reducible exact Below.refl _ _) | (with_reducible refine below_wov ?_ ?_ _) | (with_reducible refine below_drewN ?_ _) | (with_reducible refine Below.drew ?_) | (with_reducible refine Below.alloc ?_ ?_ _) | (with_reducible refine Below.setCell ?_ ?_ _) | (with_reducible exact Nat.le_refl _) | omega | (simp only [World.size_alloc, World.size_setCell, World.size_drew, Wov_size, World.heap_drewN]; omega)))), m8_5.below (by (repeat' (first | (with_reducible assumption) | (with_reducible exact Below.refl _ _) | (with_reducible refine below_wov ?_ ?_ _) | (with_reducible refine below_drewN ?_ _) | (with_reducible refine Below.drew ?_) | (with_reducible refine Below.alloc ?_ ?_ _) | (with_reducible refine Below.setCell ?_ ?_ _) | (with_reducible exact Nat.le_refl _) | omega | (simp only [World.size_alloc, World.size_setCell, World.size_drew, Wov_size, World.heap_drewN]; omega))))⟩ ?_
                  rintro W9 ⟨hb9, m9_0, m9_1, m9_2, m9_3, m9_4, m9_5⟩
                  clear hb8 f8_0_lt f8_0_c0 f8_0_c1 f8_1_lt f8_1_c0 f8_1_c1 f8_1_c2 f8_1_c3 f8_1_c4 f8_3_lt f8_3_c0 f8_3_c1 f8_4_lt f8_4_c0 f8_4_c1 f8_5_lt f8_5_c0 f8_5_c1 m8_0 m8_1 m8_2 m8_3 m8_4 m8_5
                  have f9_0_lt := m9_0.lt
                  have f9_0_c0 := m9_0.c0
                  have f9_0_c1 := m9_0.c1
                  have f9_1_lt := m9_1.lt
                  have f9_1_c0 := m9_1.c0
                  have f9_1_c1 := m9_1.c1
                  have f9_1_c2 := m9_1.c2
                  have f9_1_c3 := m9_1.c3
                  have f9_1_c4 := m9_1.c4
                  have f9_3_lt := m9_3.lt
                  have f9_3_c0 := m9_3.c0
                  have f9_3_c1 := m9_3.c1
                  have f9_4_lt := m9_4.lt
                  have f9_4_c0 := m9_4.c0
                  have f9_4_c1 := m9_4.c1
                  have f9_5_lt := m9_5.lt
                  have f9_5_c0 := m9_5.c0
                  have f9_5_c1 := m9_5.c1
                  refine ((KCC.out _ (H0.out (by simp) (by simp))).out _ _ _ m9_3.sl m9_2).mono ?_; rintro e w' ⟨rfl, qf, rfl⟩
                  have hi := HIN.out
                  clear H6 H0 HIN
                  simp [cmpIn] at hi
                  subst hi
                  cases one
                  all_goals
                    go_wp2
                    all_goals
                      go_ret
                      exact gives_bool (by simp) (by (repeat' (first | (with_reducible assumption) | (with_reducible exact Below.refl _ _) | (with_reducible refine below_wov ?_ ?_ _) | (with_reducible refine below_drewN ?_ _) | (with_reducible refine Below.drew ?_) | (with_reducible refine Below.alloc ?_ ?_ _) | (with_reducible refine Below.setCell ?_ ?_ _) | (with_reducible exact Nat.le_refl _) | omega | (simp only [World.size_alloc, World.size_setCell, World.size_drew, Wov_size, World.heap_drewN]; omega))))
            · skip
              go_wp2_with (fail)
              refine calls_world (fun W => Below w.heap.size w W ∧ BoxM W w.heap.size na pa Na ca fa ∧ BoxS W (w.heap.size + 1) lo ls hi hs true ∧ SlR W q M T ∧ BoxM W A1 y1 p1 Y1 c1 h1 ∧ PairAt W Z (a' * 2) u1 u2 ∧ BoxR W A2 lo 1) ⟨by (repeat' (first | (with_reducible assumption) | (with_reducible exact Below.refl _ _) | (with_reducible refine below_wov ?_ ?_ _) | (with_reducible refine below_drewN ?_ _) | (with_reducible refine Below.drew ?_) | (with_reducible refine Below.alloc ?_ ?_ _) | (with_reducible refine Below.setCell ?_ ?_ _) | (with_reducible exact Nat.le_refl _) | omega | (simp only [World.size_alloc, World.size_setCell, World.size_drew, Wov_size, World.heap_drewN]; omega))), m5_0.below (by (repeat' (first | (with_reducible assumption) | (with_reducible exact Below.refl _ _) | (with_reducible refine below_wov ?_ ?_ _) | (with_reducible refine below_drewN ?_ _) | (with_reducible refine Below.drew ?_) | (with_reducible refine Below.alloc ?_ ?_ _) | (with_reducible refine Below.setCell ?_ ?_ _) | (with_reducible exact Nat.le_refl _) | omega | (simp only [World.size_alloc, World.size_setCell, World.size_drew, Wov_size, World.heap_drewN]; omega)))), m5_1.below (by (repeat' (first | (with_reducible assumption) | (with_reducible exact Below.refl _ _) | (with_reducible refine below_wov ?_ ?_ _) | (with_reducible refine below_drewN ?_ _) | (with_reducible refine Below.drew ?_) | (with_reducible refine Below.alloc ?_ ?_ _) | (with_reducible refine Below.setCell ?_ ?_ _) | (with_reducible exact Nat.le_refl _) | omega | (simp only [World.size_alloc, World.size_setCell, World.size_drew, Wov_size, World.heap_drewN]; omega)))), m5_2.below (by (repeat' (first | (with_reducible assumption) | (with_reducible exact Below.refl _ _) | (with_reducible refine below_wov ?_ ?_ _) | (with_reducible refine below_drewN ?_ _) | (with_reducible refine Below.drew ?_) | (with_reducible refine Below.alloc ?_ ?_ _) | (with_reducible refine Below.setCell ?_ ?_ _) | (with_reducible exact Nat.le_refl _) | omega | (simp only [World.size_alloc, World.size_setCell, World.size_drew, Wov_size, World.heap_drewN]; omega)))), m5_3.below (by (repeat' (first | (with_reducible assumption) | (with_reducible exact Below.refl _ _) | (with_reducible refine below_wov ?_ ?_ _) | (with_reducible refine below_drewN ?_ _) | (with_reducible refine Below.drew ?_) | (with_reducible refine Below.alloc ?_ ?_ _) | (with_reducible refine Below.setCell ?_ ?_ _) | (with_reducible exact Nat.le_refl _) | omega | (simp only [World.size_alloc, World.size_setCell, World.size_drew, Wov_size, World.heap_drewN]; omega)))), m5_4.below (by (repeat' (first | (with_reducible assumption) | (with_reducible exact Below.refl _ _) | (with_reducible refine below_wov ?_ ?_ _) | (with_reducible refine below_drewN ?_ _) | (with_reducible refine Below.drew ?_) | (with_reducible refine Below.alloc ?_ ?_ _) | (with_reducible refine Below.setCell ?_ ?_ _) | (with_reducible exact Nat.le_refl _) | omega | (simp only [World.size_alloc, World.size_setCell, World.size_drew, Wov_size, World.heap_drewN]; omega)))), m5_5.below (by (repeat' (first | (with_reducible assumption) | (with_reducible exact Below.refl _ _) | (with_reducible refine below_wov ?_ ?_ _) | (with_reducible refine below_drewN ?_ _) | (with_reducible refine Below.drew ?_) | (with_reducible refine Below.alloc ?_ ?_ _) | (with_reducible refine Below.setCell ?_ ?_ _) | (with_reducible exact Nat.le_refl _) | omega | (simp only [World.size_alloc, World.size_setCell, World.size_drew, Wov_size, World.heap_drewN]; omega))))⟩ ?_
              rintro W6 ⟨hb6, m6_0, m6_1, m6_2, m6_3, m6_4, m6_5⟩
              clear hb5 f5_0_lt f5_0_c0 f5_0_c1 f5_1_lt f5_1_c0 f5_1_c1 f5_1_c2 f5_1_c3 f5_1_c4 f5_3_lt f5_3_c0 f5_3_c1 f5_4_lt f5_4_c0 f5_4_c1 f5_5_lt f5_5_c0 f5_5_c1 m5_0 m5_1 m5_2 m5_3 m5_4 m5_5
              have f6_0_lt := m6_0.lt
              have f6_0_c0 := m6_0.c0
              have f6_0_c1 := m6_0.c1
              have f6_1_lt := m6_1.lt
              have f6_1_c0 := m6_1.c0
              have f6_1_c1 := m6_1.c1
              have f6_1_c2 := m6_1.c2
              have f6_1_c3 := m6_1.c3
              have f6_1_c4 := m6_1.c4
              have f6_3_lt := m6_3.lt
              have f6_3_c0 := m6_3.c0
              have f6_3_c1 := m6_3.c1
              have f6_4_lt := m6_4.lt
              have f6_4_c0 := m6_4.c0
              have f6_4_c1 := m6_4.c1
              have f6_5_lt := m6_5.lt
              have f6_5_c0 := m6_5.c0
              have f6_5_c1 := m6_5.c1
              refine (CC.out _ _ _ m6_3.sl).mono ?_; rintro e w' ⟨rfl, qe, rfl⟩
              cases s1
              · skip
                go_wp2
                all_goals
                  go_ret
                  exact gives_bool (by simp) (by (repeat' (first | (with_reducible assumption) | (with_reducible exact Below.refl _ _) | (with_reducible refine below_wov ?_ ?_ _) | (with_reducible refine below_drewN ?_ _) | (with_reducible refine Below.drew ?_) | (with_reducible refine Below.alloc ?_ ?_ _) | (with_reducible refine Below.setCell ?_ ?_ _) | (with_reducible exact Nat.le_refl _) | omega | (simp only [World.size_alloc, World.size_setCell, World.size_drew, Wov_size, World.heap_drewN]; omega))))
              · skip
                simp only [rcode, if_true]
                go_wp2_with (fail)
                refine calls_world (fun W => Below w.heap.size w W ∧ BoxM W w.heap.size na pa Na ca fa ∧ BoxS W (w.heap.size + 1) lo ls hi hs true ∧ SlR W q M T ∧ BoxM W A1 y1 p1 Y1 c1 h1 ∧ PairAt W Z (a' * 2) u1 u2 ∧ BoxR W A2 lo 1) ⟨by (repeat' (first | (with_reducible assumption) | (with_reducible exact Below.refl _ _) | (with_reducible refine below_wov ?_ ?_ _) | (with_reducible refine below_drewN ?_ _) | (with_reducible refine Below.drew ?_) | (with_reducible refine Below.alloc ?_ ?_ _) | (with_reducible refine Below.setCell ?_ ?_ _) | (with_reducible exact Nat.le_refl _) | omega | (simp only [World.size_alloc, World.size_setCell, World.size_drew, Wov_size, World.heap_drewN]; omega))), m6_0.below (by (repeat' (first | (with_reducible assumption) | (with_reducible exact Below.refl _ _) | (with_reducible refine below_wov ?_ ?_ _) | (with_reducible refine below_drewN ?_ _) | (with_reducible refine Below.drew ?_) | (with_reducible refine Below.alloc ?_ ?_ _) | (with_reducible refine Below.setCell ?_ ?_ _) | (with_reducible exact Nat.le_refl _) | omega | (simp only [World.size_alloc, World.size_setCell, World.size_drew, Wov_size, World.heap_drewN]; omega)))), m6_1.below (by (repeat' (first | (with_reducible assumption) | (with_reducible exact Below.refl _ _) | (with_reducible refine below_wov ?_ ?_ _) | (with_reducible refine below_drewN ?_ _) | (with_reducible refine Below.drew ?_) | (with_reducible refine Below.alloc ?_ ?_ _) | (with_reducible refine Below.setCell ?_ ?_ _) | (with_reducible exact Nat.le_refl _) | omega | (simp only [World.size_alloc, World.size_setCell, World.size_drew, Wov_size, World.heap_drewN]; omega)))), m6_2.below (by (repeat' (first | (with_reducible assumption) | (with_reducible exact Below.refl _ _) | (with_reducible refine below_wov ?_ ?_ _) | (with_reducible refine below_drewN ?_ _) | (with_reducible refine Below.drew ?_) | (with_reducible refine Below.alloc ?_ ?_ _) | (with_reducible refine Below.setCell ?_ ?_ _) | (with_reducible exact Nat.le_refl _) | omega | (simp only [World.size_alloc, World.size_setCell, World.size_drew, Wov_size, World.heap_drewN]; omega)))), m6_3.below (by (repeat' (first | (with_reducible assumption) | (with_reducible exact Below.refl _ _) | (with_reducible refine below_wov ?_ ?_ _) | (with_reducible refine below_drewN ?_ _) | (with_reducible refine Below.drew ?_) | (with_reducible refine Below.alloc ?_ ?_ _) | (with_reducible refine Below.setCell ?_ ?_ _) | (with_reducible exact Nat.le_refl _) | omega | (simp only [World.size_alloc, World.size_setCell, World.size_drew, Wov_size, World.heap_drewN]; omega)))), m6_4.below (by (repeat' (first | (with_reducible assumption) | (with_reducible exact Below.refl _ _) | (with_reducible refine below_wov ?_ ?_ _) | (with_reducible refine below_drewN ?_ _) | (with_reducible refine Below.drew ?_) | (with_reducible refine Below.alloc ?_ ?_ _) | (with_reducible refine Below.setCell ?_ ?_ _) | (with_reducible exact Nat.le_refl _) | omega | (simp only [World.size_alloc, World.size_setCell, World.size_drew, Wov_size, World.heap_drewN]; omega)))), m6_5.below (by (repeat' (first | (with_reducible assumption) | (with_reducible exact Below.refl _ _) | (with_reducible refine below_wov ?_ ?_ _) | (with_reducible refine below_drewN ?_ _) | (with_reducible refine Below.drew ?_) | (with_reducible refine Below.alloc ?_ ?_ _) | (with_reducible refine Below.setCell ?_ ?_ _) | (with_reducible exact Nat.le_refl _) | omega | (simp only [World.size_alloc, World.size_setCell, World.size_drew, Wov_size, World.heap_drewN]; omega))))⟩ ?_
                rintro W7 ⟨hb7, m7_0, m7_1, m7_2, m7_3, m7_4, m7_5⟩
                clear hb6 f6_0_lt f6_0_c0 f6_0_c1 f6_1_lt f6_1_c0 f6_1_c1 f6_1_c2 f6_1_c3 f6_1_c4 f6_3_lt f6_3_c0 f6_3_c1 f6_4_lt f6_4_c0 f6_4_c1 f6_5_lt f6_5_c0 f6_5_c1 m6_0 m6_1 m6_2 m6_3 m6_4 m6_5
                have f7_0_lt := m7_0.lt
                have f7_0_c0 := m7_0.c0
                have f7_0_c1 := m7_0.c1
                have f7_1_lt := m7_1.lt
                have f7_1_c0 := m7_1.c0
                have f7_1_c1 := m7_1.c1
                have f7_1_c2 := m7_1.c2
                have f7_1_c3 := m7_1.c3
                have f7_1_c4 := m7_1.c4
                have f7_3_lt := m7_3.lt
                have f7_3_c0 := m7_3.c0
                have f7_3_c1 := m7_3.c1
                have f7_4_lt := m7_4.lt
                have f7_4_c0 := m7_4.c0
                have f7_4_c1 := m7_4.c1
                have f7_5_lt := m7_5.lt
                have f7_5_c0 := m7_5.c0
                have f7_5_c1 := m7_5.c1
                refine ((KCC.out _ (H0.out (by simp) (by simp))).out _ _ _ m7_3.sl m7_2).mono ?_; rintro e w' ⟨rfl, qf, rfl⟩
                have hi := HIN.out
                clear H6 H0 HIN
                simp [cmpIn] at hi
                subst hi
                cases one
                all_goals
                  go_wp2
                  all_goals
                    go_ret
                    exact gives_bool (by simp) (by (repeat' (first | (with_reducible assumption) | (with_reducible exact Below.refl _ _) | (with_reducible refine below_wov ?_ ?_ _) | (with_reducible refine below_drewN ?_ _) | (with_reducible refine Below.drew ?_) | (with_reducible refine Below.alloc ?_ ?_ _) | (with_reducible refine Below.setCell ?_ ?_ _) | (with_reducible exact Nat.le_refl _) | omega | (simp only [World.size_alloc, World.size_setCell, World.size_drew, Wov_size, World.heap_drewN]; omega))))
        · skip
          go_wp2_with (at_builtin; refine wpList_all _ _ (by ((try simp only [World.size_alloc, Wov_size, Array.size_append]) <;> (try omega))) rfl _ _ rfl rfl rfl q M cq T rfl (m3_2.below (by (repeat' (first | (with_reducible assumption) | (with_reducible exact Below.refl _ _) | (with_reducible refine below_wov ?_ ?_ _) | (with_reducible refine below_drewN ?_ _) | (with_reducible refine Below.drew ?_) | (with_reducible refine Below.alloc ?_ ?_ _) | (with_reducible refine Below.setCell ?_ ?_ _) | (with_reducible exact Nat.le_refl _) | omega | (simp only [World.size_alloc, World.size_setCell, World.size_drew, Wov_size, World.heap_drewN]; omega))))) hM2 ?_; intro Z zc w1 hz0 hz1 hz2 hz3
                       have hbX : Below W3.heap.size W3 w1 := Below.trans (by (repeat' (first | (with_reducible assumption) | (with_reducible exact Below.refl _ _) | (with_reducible refine below_wov ?_ ?_ _) | (with_reducible refine below_drewN ?_ _) | (with_reducible refine Below.drew ?_) | (with_reducible refine Below.alloc ?_ ?_ _) | (with_reducible refine Below.setCell ?_ ?_ _) | (with_reducible exact Nat.le_refl _) | omega | (simp only [World.size_alloc, World.size_setCell, World.size_drew, Wov_size, World.heap_drewN]; omega)))) (hz0.mono (by ((try simp only [World.size_alloc, Wov_size, Array.size_append]) <;> (try omega))))
                       have hbw1 : Below w.heap.size w w1 := hb3.trans (hbX.mono hb3.size)
                       have tA : BoxM w1 (W3.heap.size + q2.bl.size) y1 p1 Y1 c1 h1 := (BoxM.new (W := Wov W3 q2) (t := 39) tp1 (by simp [Wov_size])).below (Below.trans (by (repeat' (first | (with_reducible assumption) | (with_reducible exact Below.refl _ _) | (with_reducible refine below_wov ?_ ?_ _) | (with_reducible refine below_drewN ?_ _) | (with_reducible refine Below.drew ?_) | (with_reducible refine Below.alloc ?_ ?_ _) | (with_reducible refine Below.setCell ?_ ?_ _) | (with_reducible exact Nat.le_refl _) | omega | (simp only [World.size_alloc, World.size_setCell, World.size_drew, Wov_size, World.heap_drewN]; omega)))) (hz0.mono (by ((try simp only [World.size_alloc, Wov_size, Array.size_append]) <;> (try omega)))))
                       have x0 := (hbX.cell (p := ⟨w.heap.size + 1, 0, none⟩) f3_1_lt).trans f3_1_c0
                       have t9 : PairAt w1 Z (a' * 2) u1 u2 := by
                         have := hz3 a' (by have := HAL.out; have := HL.out; omega)
                         rw [← HU1.out, ← HU2.out] at this
                         exact ⟨hz2, this.1, this.2⟩
                       rw [HL.out]
                       clear hz0 hz1 hz2 hz3)
          obtain ⟨A1, hA1⟩ : ∃ A, W3.heap.size + q2.bl.size = A := ⟨_, rfl⟩
          rw [hA1] at tA
          rw [hA1]
          refine calls_world (fun W => Below w.heap.size w W ∧ BoxM W w.heap.size na pa Na ca fa ∧ BoxS W (w.heap.size + 1) lo ls hi hs op ∧ SlR W q M T ∧ BoxM W A1 y1 p1 Y1 c1 h1 ∧ PairAt W Z (a' * 2) u1 u2) ⟨hbw1, m3_0.below hbX, m3_1.below hbX, m3_2.below hbX, tA, t9⟩ ?_
          rintro W4 ⟨hb4, m4_0, m4_1, m4_2, m4_3, m4_4⟩
          clear hb3 f3_0_lt f3_0_c0 f3_0_c1 f3_1_lt f3_1_c0 f3_1_c1 f3_1_c2 f3_1_c3 f3_1_c4 m3_0 m3_1 m3_2
          have f4_0_lt := m4_0.lt
          have f4_0_c0 := m4_0.c0
          have f4_0_c1 := m4_0.c1
          have f4_1_lt := m4_1.lt
          have f4_1_c0 := m4_1.c0
          have f4_1_c1 := m4_1.c1
          have f4_1_c2 := m4_1.c2
          have f4_1_c3 := m4_1.c3
          have f4_1_c4 := m4_1.c4
          have f4_3_lt := m4_3.lt
          have f4_3_c0 := m4_3.c0
          have f4_3_c1 := m4_3.c1
          have f4_4_lt := m4_4.lt
          have f4_4_c0 := m4_4.c0
          have f4_4_c1 := m4_4.c1
          clear hbX hbw1 tA x0 t9 tp1 hA1
          refine (OL.out _).mono ?_; rintro e w' ⟨rfl, q3, rfl⟩
          go_wp2_with (fail)
          obtain ⟨A2, hA2⟩ : ∃ A, W4.heap.size + q3.bl.size = A := ⟨_, rfl⟩
          rw [hA2]
          refine wp_world (fun W => Below w.heap.size w W ∧ BoxM W w.heap.size na pa Na ca fa ∧ BoxS W (w.heap.size + 1) lo ls hi hs op ∧ SlR W q M T ∧ BoxM W A1 y1 p1 Y1 c1 h1 ∧ PairAt W Z (a' * 2) u1 u2 ∧ BoxR W A2 lo 1) ⟨by (repeat' (first | (with_reducible assumption) | (with_reducible exact Below.refl _ _) | (with_reducible refine below_wov ?_ ?_ _) | (with_reducible refine below_drewN ?_ _) | (with_reducible refine Below.drew ?_) | (with_reducible refine Below.alloc ?_ ?_ _) | (with_reducible refine Below.setCell ?_ ?_ _) | (with_reducible exact Nat.le_refl _) | omega | (simp only [World.size_alloc, World.size_setCell, World.size_drew, Wov_size, World.heap_drewN]; omega))), m4_0.below (by (repeat' (first | (with_reducible assumption) | (with_reducible exact Below.refl _ _) | (with_reducible refine below_wov ?_ ?_ _) | (with_reducible refine below_drewN ?_ _) | (with_reducible refine Below.drew ?_) | (with_reducible refine Below.alloc ?_ ?_ _) | (with_reducible refine Below.setCell ?_ ?_ _) | (with_reducible exact Nat.le_refl _) | omega | (simp only [World.size_alloc, World.size_setCell, World.size_drew, Wov_size, World.heap_drewN]; omega)))), m4_1.below (by (repeat' (first | (with_reducible assumption) | (with_reducible exact Below.refl _ _) | (with_reducible refine below_wov ?_ ?_ _) | (with_reducible refine below_drewN ?_ _) | (with_reducible refine Below.drew ?_) | (with_reducible refine Below.alloc ?_ ?_ _) | (with_reducible refine Below.setCell ?_ ?_ _) | (with_reducible exact Nat.le_refl _) | omega | (simp only [World.size_alloc, World.size_setCell, World.size_drew, Wov_size, World.heap_drewN]; omega)))), m4_2.below (by (repeat' (first | (with_reducible assumption) | (with_reducible exact Below.refl _ _) | (with_reducible refine below_wov ?_ ?_ _) | (with_reducible refine below_drewN ?_ _) | (with_reducible refine Below.drew ?_) | (with_reducible refine Below.alloc ?_ ?_ _) | (with_reducible refine Below.setCell ?_ ?_ _) | (with_reducible exact Nat.le_refl _) | omega | (simp only [World.size_alloc, World.size_setCell, World.size_drew, Wov_size, World.heap_drewN]; omega)))), m4_3.below (by (repeat' (first | (with_reducible assumption) | (with_reducible exact Below.refl _ _) | (with_reducible refine below_wov ?_ ?_ _) | (with_reducible refine below_drewN ?_ _) | (with_reducible refine Below.drew ?_) | (with_reducible refine Below.alloc ?_ ?_ _) | (with_reducible refine Below.setCell ?_ ?_ _) | (with_reducible exact Nat.le_refl _) | omega | (simp only [World.size_alloc, World.size_setCell, World.size_drew, Wov_size, World.heap_drewN]; omega)))), m4_4.below (by (repeat' (first | (with_reducible assumption) | (with_reducible exact Below.refl _ _) | (with_reducible refine below_wov ?_ ?_ _) | (with_reducible refine below_drewN ?_ _) | (with_reducible refine Below.drew ?_) | (with_reducible refine Below.alloc ?_ ?_ _) | (with_reducible refine Below.setCell ?_ ?_ _) | (with_reducible exact Nat.le_refl _) | omega | (simp only [World.size_alloc, World.size_setCell, World.size_drew, Wov_size, World.heap_drewN]; omega)))), BoxR.new (by rw [← hA2]; (try simp only [Wov_size]))⟩ ?_
          rintro W5 ⟨hb5, m5_0, m5_1, m5_2, m5_3, m5_4, m5_5⟩
          clear hb4 f4_0_lt f4_0_c0 f4_0_c1 f4_1_lt f4_1_c0 f4_1_c1 f4_1_c2 f4_1_c3 f4_1_c4 f4_3_lt f4_3_c0 f4_3_c1 f4_4_lt f4_4_c0 f4_4_c1 m4_0 m4_1 m4_2 m4_3 m4_4
          have f5_0_lt := m5_0.lt
          have f5_0_c0 := m5_0.c0
          have f5_0_c1 := m5_0.c1
          have f5_1_lt := m5_1.lt
          have f5_1_c0 := m5_1.c0
          have f5_1_c1 := m5_1.c1
          have f5_1_c2 := m5_1.c2
          have f5_1_c3 := m5_1.c3
          have f5_1_c4 := m5_1.c4
          have f5_3_lt := m5_3.lt
          have f5_3_c0 := m5_3.c0
          have f5_3_c1 := m5_3.c1
          have f5_4_lt := m5_4.lt
          have f5_4_c0 := m5_4.c0
          have f5_4_c1 := m5_4.c1
          have f5_5_lt := m5_5.lt
          have f5_5_c0 := m5_5.c0
          have f5_5_c1 := m5_5.c1
          refine wp_region_wov (by kernel_rfl) (by kernel_rfl) ?_
          repeat (go_big_quiet_step ((go_at_call 23; (first | exact (CM1.out).at _ _ | exact (CM1.out).at2 _ _ _ | exact (CM1.out).at3 _ _ _ _ | exact (CM1.out).at4 _ _ _ _ _ | exact (CM1.out).at5 _ _ _ _ _ _ | exact (CM1.out).at6 _ _ _ _ _ _ _))))
          refine wpQuiet_nil ?_
          rintro _ ⟨pq, rfl⟩
          rcases hn0 with rfl | rfl | rfl
          · skip
            cases op
            · skip
              go_wp2_with (fail)
              refine calls_world (fun W => Below w.heap.size w W ∧ BoxM W w.heap.size na pa Na ca fa ∧ BoxS W (w.heap.size + 1) lo ls hi hs false ∧ SlR W q M T ∧ BoxM W A1 y1 p1 Y1 c1 h1 ∧ PairAt W Z (a' * 2) u1 u2) ⟨by (repeat' (first | (with_reducible assumption) | (with_reducible exact Below.refl _ _) | (with_reducible refine below_wov ?_ ?_ _) | (with_reducible refine below_drewN ?_ _) | (with_reducible refine Below.drew ?_) | (with_reducible refine Below.alloc ?_ ?_ _) | (with_reducible refine Below.setCell ?_ ?_ _) | (with_reducible exact Nat.le_refl _) | omega | (simp only [World.size_alloc, World.size_setCell, World.size_drew, Wov_size, World.heap_drewN]; omega))), m5_0.below (by (repeat' (first | (with_reducible assumption) | (with_reducible exact Below.refl _ _) | (with_reducible refine below_wov ?_ ?_ _) | (with_reducible refine below_drewN ?_ _) | (with_reducible refine Below.drew ?_) | (with_reducible refine Below.alloc ?_ ?_ _) | (with_reducible refine Below.setCell ?_ ?_ _) | (with_reducible exact Nat.le_refl _) | omega | (simp only [World.size_alloc, World.size_setCell, World.size_drew, Wov_size, World.heap_drewN]; omega)))), m5_1.below (by (repeat' (first | (with_reducible assumption) | (with_reducible exact Below.refl _ _) | (with_reducible refine below_wov ?_ ?_ _) | (with_reducible refine below_drewN ?_ _) | (with_reducible refine Below.drew ?_) | (with_reducible refine Below.alloc ?_ ?_ _) | (with_reducible refine Below.setCell ?_ ?_ _) | (with_reducible exact Nat.le_refl _) | omega | (simp only [World.size_alloc, World.size_setCell, World.size_drew, Wov_size, World.heap_drewN]; omega)))), m5_2.below (by (repeat' (first | (with_reducible assumption) | (with_reducible exact Below.refl _ _) | (with_reducible refine below_wov ?_ ?_ _) | (with_reducible refine below_drewN ?_ _) | (with_reducible refine Below.drew ?_) | (with_reducible refine Below.alloc ?_ ?_ _) | (with_reducible refine Below.setCell ?_ ?_ _) | (with_reducible exact Nat.le_refl _) | omega | (simp only [World.size_alloc, World.size_setCell, World.size_drew, Wov_size, World.heap_drewN]; omega)))), m5_3.below (by (repeat' (first | (with_reducible assumption) | (with_reducible exact Below.refl _ _) | (with_reducible refine below_wov ?_ ?_ _) | (with_reducible refine below_drewN ?_ _) | (with_reducible refine Below.drew ?_) | (with_reducible refine Below.alloc ?_ ?_ _) | (with_reducible refine Below.setCell ?_ ?_ _) | (with_reducible exact Nat.le_refl _) | omega | (simp only [World.size_alloc, World.size_setCell, World.size_drew, Wov_size, World.heap_drewN]; omega)))), m5_4.below (by (repeat' (first | (with_reducible assumption) | (with_reducible exact Below.refl _ _) | (with_reducible refine below_wov ?_ ?_ _) | (with_reducible refine below_drewN ?_ _) | (with_reducible refine Below.drew ?_) | (with_reducible refine Below.alloc ?_ ?_ _) | (with_reducible refine Below.setCell ?_ ?_ _) | (with_reducible exact Nat.le_refl _) | omega | (simp only [World.size_alloc, World.size_setCell, World.size_drew, Wov_size, World.heap_drewN]; omega))))⟩ ?_
              rintro W6 ⟨hb6, m6_0, m6_1, m6_2, m6_3, m6_4⟩
              clear hb5 f5_0_lt f5_0_c0 f5_0_c1 f5_1_lt f5_1_c0 f5_1_c1 f5_1_c2 f5_1_c3 f5_1_c4 f5_3_lt f5_3_c0 f5_3_c1 f5_4_lt f5_4_c0 f5_4_c1 f5_5_lt f5_5_c0 f5_5_c1 m5_0 m5_1 m5_2 m5_3 m5_4 m5_5
              have f6_0_lt := m6_0.lt
              have f6_0_c0 := m6_0.c0
              have f6_0_c1 := m6_0.c1
              have f6_1_lt := m6_1.lt
              have f6_1_c0 := m6_1.c0
              have f6_1_c1 := m6_1.c1
              have f6_1_c2 := m6_1.c2
              have f6_1_c3 := m6_1.c3
              have f6_1_c4 := m6_1.c4
              have f6_3_lt := m6_3.lt
              have f6_3_c0 := m6_3.c0
              have f6_3_c1 := m6_3.c1
              have f6_4_lt := m6_4.lt
              have f6_4_c0 := m6_4.c0
              have f6_4_c1 := m6_4.c1
              refine (OH.out _).mono ?_; rintro e w' ⟨rfl, q4, rfl⟩
              go_wp2_with (fail)
              obtain ⟨A3, hA3⟩ : ∃ A, W6.heap.size + q4.bl.size = A := ⟨_, rfl⟩
              rw [hA3]
              refine wp_world (fun W => Below w.heap.size w W ∧ BoxM W w.heap.size na pa Na ca fa ∧ BoxS W (w.heap.size + 1) lo ls hi hs false ∧ SlR W q M T ∧ BoxM W A1 y1 p1 Y1 c1 h1 ∧ PairAt W Z (a' * 2) u1 u2 ∧ BoxR W A3 hi 1) ⟨by (repeat' (first | (with_reducible assumption) | (with_reducible exact Below.refl _ _) | (with_reducible refine below_wov ?_ ?_ _) | (with_reducible refine below_drewN ?_ _) | (with_reducible refine Below.drew ?_) | (with_reducible refine Below.alloc ?_ ?_ _) | (with_reducible refine Below.setCell ?_ ?_ _) | (with_reducible exact Nat.le_refl _) | omega | (simp only [World.size_alloc, World.size_setCell, World.size_drew, Wov_size, World.heap_drewN]; omega))), m6_0.below (by (repeat' (first | (with_reducible assumption) | (with_reducible exact Below.refl _ _) | (with_reducible refine below_wov ?_ ?_ _) | (with_reducible refine below_drewN ?_ _) | (with_reducible refine Below.drew ?_) | (with_reducible refine Below.alloc ?_ ?_ _) | (with_reducible refine Below.setCell ?_ ?_ _) | (with_reducible exact Nat.le_refl _) | omega | (simp only [World.size_alloc, World.size_setCell, World.size_drew, Wov_size, World.heap_drewN]; omega)))), m6_1.below (by (repeat' (first | (with_reducible assumption) | (with_reducible exact Below.refl _ _) | (with_reducible refine below_wov ?_ ?_ _) | (with_reducible refine below_drewN ?_ _) | (with_reducible refine Below.drew ?_) | (with_reducible refine Below.alloc ?_ ?_ _) | (with_reducible refine Below.setCell ?_ ?_ _) | (with_reducible exact Nat.le_refl _) | omega | (simp only [World.size_alloc, World.size_setCell, World.size_drew, Wov_size, World.heap_drewN]; omega)))), m6_2.below (by (repeat' (first | (with_reducible assumption) | (with_reducible exact Below.refl _ _) | (with_reducible refine below_wov ?_ ?_ _) | (with_reducible refine below_drewN ?_ _) | (with_reducible refine Below.drew ?_) | (with_reducible refine Below.alloc ?_ ?_ _) | (with_reducible refine Below.setCell ?_ ?_ _) | (with_reducible exact Nat.le_refl _) | omega | (simp only [World.size_alloc, World.size_setCell, World.size_drew, Wov_size, World.heap_drewN]; omega)))), m6_3.below (by (repeat' (first | (with_reducible assumption) | (with_reducible exact Below.refl _ _) | (with_reducible refine below_wov ?_ ?_ _) | (with_reducible refine below_drewN ?_ _) | (with_reducible refine Below.drew ?_) | (with_reducible refine Below.alloc ?_ ?_ _) | (with_reducible refine Below.setCell ?_ ?_ _) | (with_reducible exact Nat.le_refl _) | omega | (simp only [World.size_alloc, World.size_setCell, World.size_drew, Wov_size, World.heap_drewN]; omega)))), m6_4.below (by (repeat' (first | (with_reducible assumption) | (with_reducible exact Below.refl _ _) | (with_reducible refine below_wov ?_ ?_ _) | (with_reducible refine below_drewN ?_ _) | (with_reducible refine Below.drew ?_) | (with_reducible refine Below.alloc ?_ ?_ _) | (with_reducible refine Below.setCell ?_ ?_ _) | (with_reducible exact Nat.le_refl _) | omega | (simp only [World.size_alloc, World.size_setCell, World.size_drew, Wov_size, World.heap_drewN]; omega)))), BoxR.new (by rw [← hA3]; (try simp only [Wov_size]))⟩ ?_
              rintro W7 ⟨hb7, m7_0, m7_1, m7_2, m7_3, m7_4, m7_5⟩
              clear hb6 f6_0_lt f6_0_c0 f6_0_c1 f6_1_lt f6_1_c0 f6_1_c1 f6_1_c2 f6_1_c3 f6_1_c4 f6_3_lt f6_3_c0 f6_3_c1 f6_4_lt f6_4_c0 f6_4_c1 m6_0 m6_1 m6_2 m6_3 m6_4
              have f7_0_lt := m7_0.lt
              have f7_0_c0 := m7_0.c0
              have f7_0_c1 := m7_0.c1
              have f7_1_lt := m7_1.lt
              have f7_1_c0 := m7_1.c0
              have f7_1_c1 := m7_1.c1
              have f7_1_c2 := m7_1.c2
              have f7_1_c3 := m7_1.c3
              have f7_1_c4 := m7_1.c4
              have f7_3_lt := m7_3.lt
              have f7_3_c0 := m7_3.c0
              have f7_3_c1 := m7_3.c1
              have f7_4_lt := m7_4.lt
              have f7_4_c0 := m7_4.c0
              have f7_4_c1 := m7_4.c1
              have f7_5_lt := m7_5.lt
              have f7_5_c0 := m7_5.c0
              have f7_5_c1 := m7_5.c1
              refine wp_region_wov (by kernel_rfl) (by kernel_rfl) ?_
              repeat (go_big_quiet_step ((go_at_call 23; (first | exact (CM2.out).at _ _ | exact (CM2.out).at2 _ _ _ | exact (CM2.out).at3 _ _ _ _ | exact (CM2.out).at4 _ _ _ _ _ | exact (CM2.out).at5 _ _ _ _ _ _ | exact (CM2.out).at6 _ _ _ _ _ _ _))))
              refine wpQuiet_nil ?_
              rintro _ ⟨pq, rfl⟩
              rcases hm0 with rfl | rfl | rfl
              all_goals
                have h6 := H6.out (by simp)
                have hi := HIN.out
                clear H6 H0 HIN
                simp [cmpIn] at hi
                subst hi
                cases one
                all_goals (try simp at h6)
                all_goals
                  go_wp2
                  all_goals
                    go_ret
                    exact gives_bool (by simp_all) (by (repeat' (first | (with_reducible assumption) | (with_reducible exact Below.refl _ _) | (with_reducible refine below_wov ?_ ?_ _) | (with_reducible refine below_drewN ?_ _) | (with_reducible refine Below.drew ?_) | (with_reducible refine Below.alloc ?_ ?_ _) | (with_reducible refine Below.setCell ?_ ?_ _) | (with_reducible exact Nat.le_refl _) | omega | (simp only [World.size_alloc, World.size_setCell, World.size_drew, Wov_size, World.heap_drewN]; omega))))
            · skip
              have h6 := H6.out (by simp)
              have hi := HIN.out
              clear H6 H0 HIN
              simp [cmpIn] at hi
              subst hi
              cases one
              all_goals (try simp at h6)
              all_goals
                go_wp2
                all_goals
                  go_ret
                  exact gives_bool (by simp_all) (by (repeat' (first | (with_reducible assumption) | (with_reducible exact Below.refl _ _) | (with_reducible refine below_wov ?_ ?_ _) | (with_reducible refine below_drewN ?_ _) | (with_reducible refine Below.drew ?_) | (with_reducible refine Below.alloc ?_ ?_ _) | (with_reducible refine Below.setCell ?_ ?_ _) | (with_reducible exact Nat.le_refl _) | omega | (simp only [World.size_alloc, World.size_setCell, World.size_drew, Wov_size, World.heap_drewN]; omega))))
          · skip
            cases ls
            · skip
              cases op
              · skip
                go_wp2_with (fail)
                refine calls_world (fun W => Below w.heap.size w W ∧ BoxM W w.heap.size na pa Na ca fa ∧ BoxS W (w.heap.size + 1) lo false hi hs false ∧ SlR W q M T ∧ BoxM W A1 y1 p1 Y1 c1 h1 ∧ PairAt W Z (a' * 2) u1 u2) ⟨by (repeat' (first | (with_reducible assumption) | (with_reducible exact Below.refl _ _) | (with_reducible refine below_wov ?_ ?_ _) | (with_reducible refine below_drewN ?_ _) | (with_reducible refine Below.drew ?_) | (with_reducible refine Below.alloc ?_ ?_ _) | (with_reducible refine Below.setCell ?_ ?_ _) | (with_reducible exact Nat.le_refl _) | omega | (simp only [World.size_alloc, World.size_setCell, World.size_drew, Wov_size, World.heap_drewN]; omega))), m5_0.below (by (repeat' (first | (with_reducible assumption) | (with_reducible exact Below.refl _ _) | (with_reducible refine below_wov ?_ ?_ _) | (with_reducible refine below_drewN ?_ _) | (with_reducible refine Below.drew ?_) | (with_reducible refine Below.alloc ?_ ?_ _) | (with_reducible refine Below.setCell ?_ ?_ _) | (with_reducible exact Nat.le_refl _) | omega | (simp only [World.size_alloc, World.size_setCell, World.size_drew, Wov_size, World.heap_drewN]; omega)))), m5_1.below (by (repeat' (first | (with_reducible assumption) | (with_reducible exact Below.refl _ _) | (with_reducible refine below_wov ?_ ?_ _) | (with_reducible refine below_drewN ?_ _) | (with_reducible refine Below.drew ?_) | (with_reducible refine Below.alloc ?_ ?_ _) | (with_reducible refine Below.setCell ?_ ?_ _) | (with_reducible exact Nat.le_refl _) | omega | (simp only [World.size_alloc, World.size_setCell, World.size_drew, Wov_size, World.heap_drewN]; omega)))), m5_2.below (by (repeat' (first | (with_reducible assumption) | (with_reducible exact Below.refl _ _) | (with_reducible refine below_wov ?_ ?_ _) | (with_reducible refine below_drewN ?_ _) | (with_reducible refine Below.drew ?_) | (with_reducible refine Below.alloc ?_ ?_ _) | (with_reducible refine Below.setCell ?_ ?_ _) | (with_reducible exact Nat.le_refl _) | omega | (simp only [World.size_alloc, World.size_setCell, World.size_drew, Wov_size, World.heap_drewN]; omega)))), m5_3.below (by (repeat' (first | (with_reducible assumption) | (with_reducible exact Below.refl _ _) | (with_reducible refine below_wov ?_ ?_ _) | (with_reducible refine below_drewN ?_ _) | (with_reducible refine Below.drew ?_) | (with_reducible refine Below.alloc ?_ ?_ _) | (with_reducible refine Below.setCell ?_ ?_ _) | (with_reducible exact Nat.le_refl _) | omega | (simp only [World.size_alloc, World.size_setCell, World.size_drew, Wov_size, World.heap_drewN]; omega)))), m5_4.below (by (repeat' (first | (with_reducible assumption) | (with_reducible exact Below.refl _ _) | (with_reducible refine below_wov ?_ ?_ _) | (with_reducible refine below_drewN ?_ _) | (with_reducible refine Below.drew ?_) | (with_reducible refine Below.alloc ?_ ?_ _) | (with_reducible refine Below.setCell ?_ ?_ _) | (with_reducible exact Nat.le_refl _) | omega | (simp only [World.size_alloc, World.size_setCell, World.size_drew, Wov_size, World.heap_drewN]; omega))))⟩ ?_
                rintro W6 ⟨hb6, m6_0, m6_1, m6_2, m6_3, m6_4⟩
                clear hb5 f5_0_lt f5_0_c0 f5_0_c1 f5_1_lt f5_1_c0 f5_1_c1 f5_1_c2 f5_1_c3 f5_1_c4 f5_3_lt f5_3_c0 f5_3_c1 f5_4_lt f5_4_c0 f5_4_c1 f5_5_lt f5_5_c0 f5_5_c1 m5_0 m5_1 m5_2 m5_3 m5_4 m5_5
                have f6_0_lt := m6_0.lt
                have f6_0_c0 := m6_0.c0
                have f6_0_c1 := m6_0.c1
                have f6_1_lt := m6_1.lt
                have f6_1_c0 := m6_1.c0
                have f6_1_c1 := m6_1.c1
                have f6_1_c2 := m6_1.c2
                have f6_1_c3 := m6_1.c3
                have f6_1_c4 := m6_1.c4
                have f6_3_lt := m6_3.lt
                have f6_3_c0 := m6_3.c0
                have f6_3_c1 := m6_3.c1
                have f6_4_lt := m6_4.lt
                have f6_4_c0 := m6_4.c0
                have f6_4_c1 := m6_4.c1
                refine (OH.out _).mono ?_; rintro e w' ⟨rfl, q4, rfl⟩
                go_wp2_with (fail)
                obtain ⟨A3, hA3⟩ : ∃ A, W6.heap.size + q4.bl.size = A := ⟨_, rfl⟩
                rw [hA3]
                refine wp_world (fun W => Below w.heap.size w W ∧ BoxM W w.heap.size na pa Na ca fa ∧ BoxS W (w.heap.size + 1) lo false hi hs false ∧ SlR W q M T ∧ BoxM W A1 y1 p1 Y1 c1 h1 ∧ PairAt W Z (a' * 2) u1 u2 ∧ BoxR W A3 hi 1) ⟨by (repeat' (first | (with_reducible assumption) | (with_reducible exact Below.refl _ _) | (with_reducible refine below_wov ?_ ?_ _) | (with_reducible refine below_drewN ?_ _) | (with_reducible refine Below.drew ?_) | (with_reducible refine Below.alloc ?_ ?_ _) | (with_reducible refine Below.setCell ?_ ?_ _) | (with_reducible exact Nat.le_refl _) | omega | (simp only [World.size_alloc, World.size_setCell, World.size_drew, Wov_size, World.heap_drewN]; omega))), m6_0.below (by (repeat' (first | (with_reducible assumption) | (with_reducible exact Below.refl _ _) | (with_reducible refine below_wov ?_ ?_ _) | (with_reducible refine below_drewN ?_ _) | (with_reducible refine Below.drew ?_) | (with_reducible refine Below.alloc ?_ ?_ _) | (with_reducible refine Below.setCell ?_ ?_ _) | (with_reducible exact Nat.le_refl _) | omega | (simp only [World.size_alloc, World.size_setCell, World.size_drew, Wov_size, World.heap_drewN]; omega)))), m6_1.below (by (repeat' (first | (with_reducible assumption) | (with_reducible exact Below.refl _ _) | (with_reducible refine below_wov ?_ ?_ _) | (with_reducible refine below_drewN ?_ _) | (with_reducible refine Below.drew ?_) | (with_reducible refine Below.alloc ?_ ?_ _) | (with_reducible refine Below.setCell ?_ ?_ _) | (with_reducible exact Nat.le_refl _) | omega | (simp only [World.size_alloc, World.size_setCell, World.size_drew, Wov_size, World.heap_drewN]; omega)))), m6_2.below (by (repeat' (first | (with_reducible assumption) | (with_reducible exact Below.refl _ _) | (with_reducible refine below_wov ?_ ?_ _) | (with_reducible refine below_drewN ?_ _) | (with_reducible refine Below.drew ?_) | (with_reducible refine Below.alloc ?_ ?_ _) | (with_reducible refine Below.setCell ?_ ?_ _) | (with_reducible exact Nat.le_refl _) | omega | (simp only [World.size_alloc, World.size_setCell, World.size_drew, Wov_size, World.heap_drewN]; omega)))), m6_3.below (by (repeat' (first | (with_reducible assumption) | (with_reducible exact Below.refl _ _) | (with_reducible refine below_wov ?_ ?_ _) | (with_reducible refine below_drewN ?_ _) | (with_reducible refine Below.drew ?_) | (with_reducible refine Below.alloc ?_ ?_ _) | (with_reducible refine Below.setCell ?_ ?_ _) | (with_reducible exact Nat.le_refl _) | omega | (simp only [World.size_alloc, World.size_setCell, World.size_drew, Wov_size, World.heap_drewN]; omega)))), m6_4.below (by (repeat' (first | (with_reducible assumption) | (with_reducible exact Below.refl _ _) | (with_reducible refine below_wov ?_ ?_ _) | (with_reducible refine below_drewN ?_ _) | (with_reducible refine Below.drew ?_) | (with_reducible refine Below.alloc ?_ ?_ _) | (with_reducible refine Below.setCell ?_ ?_ _) | (with_reducible exact Nat.le_refl _) | omega | (simp only [World.size_alloc, World.size_setCell, World.size_drew, Wov_size, World.heap_drewN]; omega)))), BoxR.new (by rw [← hA3]; (try simp only [Wov_size]))⟩ ?_
                rintro W7 ⟨hb7, m7_0, m7_1, m7_2, m7_3, m7_4, m7_5⟩
                clear hb6 f6_0_lt f6_0_c0 f6_0_c1 f6_1_lt f6_1_c0 f6_1_c1 f6_1_c2 f6_1_c3 f6_1_c4 f6_3_lt f6_3_c0 f6_3_c1 f6_4_lt f6_4_c0 f6_4_c1 m6_0 m6_1 m6_2 m6_3 m6_4
                have f7_0_lt := m7_0.lt
                have f7_0_c0 := m7_0.c0
                have f7_0_c1 := m7_0.c1
                have f7_1_lt := m7_1.lt
                have f7_1_c0 := m7_1.c0
                have f7_1_c1 := m7_1.c1
                have f7_1_c2 := m7_1.c2
                have f7_1_c3 := m7_1.c3
                have f7_1_c4 := m7_1.c4
                have f7_3_lt := m7_3.lt
                have f7_3_c0 := m7_3.c0
                have f7_3_c1 := m7_3.c1
                have f7_4_lt := m7_4.lt
                have f7_4_c0 := m7_4.c0
                have f7_4_c1 := m7_4.c1
                have f7_5_lt := m7_5.lt
                have f7_5_c0 := m7_5.c0
                have f7_5_c1 := m7_5.c1
                refine wp_region_wov (by kernel_rfl) (by kernel_rfl) ?_
                repeat (go_big_quiet_step ((go_at_call 23; (first | exact (CM2.out).at _ _ | exact (CM2.out).at2 _ _ _ | exact (CM2.out).at3 _ _ _ _ | exact (CM2.out).at4 _ _ _ _ _ | exact (CM2.out).at5 _ _ _ _ _ _ | exact (CM2.out).at6 _ _ _ _ _ _ _))))
                refine wpQuiet_nil ?_
                rintro _ ⟨pq, rfl⟩
                rcases hm0 with rfl | rfl | rfl
                all_goals
                  have h6 := H6.out (by simp)
                  have hi := HIN.out
                  clear H6 H0 HIN
                  simp [cmpIn] at hi
                  subst hi
                  cases one
                  all_goals (try simp at h6)
                  all_goals
                    go_wp2
                    all_goals
                      go_ret
                      exact gives_bool (by simp_all) (by (repeat' (first | (with_reducible assumption) | (with_reducible exact Below.refl _ _) | (with_reducible refine below_wov ?_ ?_ _) | (with_reducible refine below_drewN ?_ _) | (with_reducible refine Below.drew ?_) | (with_reducible refine Below.alloc ?_ ?_ _) | (with_reducible refine Below.setCell ?_ ?_ _) | (with_reducible exact Nat.le_refl _) | omega | (simp only [World.size_alloc, World.size_setCell, World.size_drew, Wov_size, World.heap_drewN]; omega))))
              · skip
                have h6 := H6.out (by simp)
                have hi := HIN.out
                clear H6 H0 HIN
                simp [cmpIn] at hi
                subst hi
                cases one
                all_goals (try simp at h6)
                all_goals
                  go_wp2
                  all_goals
                    go_ret
                    exact gives_bool (by simp_all) (by (repeat' (first | (with_reducible assumption) | (with_reducible exact Below.refl _ _) | (with_reducible refine below_wov ?_ ?_ _) | (with_reducible refine below_drewN ?_ _) | (with_reducible refine Below.drew ?_) | (with_reducible refine Below.alloc ?_ ?_ _) | (with_reducible refine Below.setCell ?_ ?_ _) | (with_reducible exact Nat.le_refl _) | omega | (simp only [World.size_alloc, World.size_setCell, World.size_drew, Wov_size, World.heap_drewN]; omega))))
            · skip
              cases op
              · skip
                go_wp2_with (fail)
                refine calls_world (fun W => Below w.heap.size w W ∧ BoxM W w.heap.size na pa Na ca fa ∧ BoxS W (w.heap.size + 1) lo true hi hs false ∧ SlR W q M T ∧ BoxM W A1 y1 p1 Y1 c1 h1 ∧ PairAt W Z (a' * 2) u1 u2) ⟨by (repeat' (first | (with_reducible assumption) | (with_reducible exact Below.refl _ _) | (with_reducible refine below_wov ?_ ?_ _) | (with_reducible refine below_drewN ?_ _) | (with_reducible refine Below.drew ?_) | (with_reducible refine Below.alloc ?_ ?_ _) | (with_reducible refine Below.setCell ?_ ?_ _) | (with_reducible exact Nat.le_refl _) | omega | (simp only [World.size_alloc, World.size_setCell, World.size_drew, Wov_size, World.heap_drewN]; omega))), m5_0.below (by (repeat' (first | (with_reducible assumption) | (with_reducible exact Below.refl _ _) | (with_reducible refine below_wov ?_ ?_ _) | (with_reducible refine below_drewN ?_ _) | (with_reducible refine Below.drew ?_) | (with_reducible refine Below.alloc ?_ ?_ _) | (with_reducible refine Below.setCell ?_ ?_ _) | (with_reducible exact Nat.le_refl _) | omega | (simp only [World.size_alloc, World.size_setCell, World.size_drew, Wov_size, World.heap_drewN]; omega)))), m5_1.below (by (repeat' (first | (with_reducible assumption) | (with_reducible exact Below.refl _ _) | (with_reducible refine below_wov ?_ ?_ _) | (with_reducible refine below_drewN ?_ _) | (with_reducible refine Below.drew ?_) | (with_reducible refine Below.alloc ?_ ?_ _) | (with_reducible refine Below.setCell ?_ ?_ _) | (with_reducible exact Nat.le_refl _) | omega | (simp only [World.size_alloc, World.size_setCell, World.size_drew, Wov_size, World.heap_drewN]; omega)))), m5_2.below (by (repeat' (first | (with_reducible assumption) | (with_reducible exact Below.refl _ _) | (with_reducible refine below_wov ?_ ?_ _) | (with_reducible refine below_drewN ?_ _) | (with_reducible refine Below.drew ?_) | (with_reducible refine Below.alloc ?_ ?_ _) | (with_reducible refine Below.setCell ?_ ?_ _) | (with_reducible exact Nat.le_refl _) | omega | (simp only [World.size_alloc, World.size_setCell, World.size_drew, Wov_size, World.heap_drewN]; omega)))), m5_3.below (by (repeat' (first | (with_reducible assumption) | (with_reducible exact Below.refl _ _) | (with_reducible refine below_wov ?_ ?_ _) | (with_reducible refine below_drewN ?_ _) | (with_reducible refine Below.drew ?_) | (with_reducible refine Below.alloc ?_ ?_ _) | (with_reducible refine Below.setCell ?_ ?_ _) | (with_reducible exact Nat.le_refl _) | omega | (simp only [World.size_alloc, World.size_setCell, World.size_drew, Wov_size, World.heap_drewN]; omega)))), m5_4.below (by (repeat' (first | (with_reducible assumption) | (with_reducible exact Below.refl _ _) | (with_reducible refine below_wov ?_ ?_ _) | (with_reducible refine below_drewN ?_ _) | (with_reducible refine Below.drew ?_) | (with_reducible refine Below.alloc ?_ ?_ _) | (with_reducible refine Below.setCell ?_ ?_ _) | (with_reducible exact Nat.le_refl _) | omega | (simp only [World.size_alloc, World.size_setCell, World.size_drew, Wov_size, World.heap_drewN]; omega))))⟩ ?_
                rintro W6 ⟨hb6, m6_0, m6_1, m6_2, m6_3, m6_4⟩
                clear hb5 f5_0_lt f5_0_c0 f5_0_c1 f5_1_lt f5_1_c0 f5_1_c1 f5_1_c2 f5_1_c3 f5_1_c4 f5_3_lt f5_3_c0 f5_3_c1 f5_4_lt f5_4_c0 f5_4_c1 f5_5_lt f5_5_c0 f5_5_c1 m5_0 m5_1 m5_2 m5_3 m5_4 m5_5
                have f6_0_lt := m6_0.lt
                have f6_0_c0 := m6_0.c0
                have f6_0_c1 := m6_0.c1
                have f6_1_lt := m6_1.lt
                have f6_1_c0 := m6_1.c0
                have f6_1_c1 := m6_1.c1
                have f6_1_c2 := m6_1.c2
                have f6_1_c3 := m6_1.c3
                have f6_1_c4 := m6_1.c4
                have f6_3_lt := m6_3.lt
                have f6_3_c0 := m6_3.c0
                have f6_3_c1 := m6_3.c1
                have f6_4_lt := m6_4.lt
                have f6_4_c0 := m6_4.c0
                have f6_4_c1 := m6_4.c1
                refine (OH.out _).mono ?_; rintro e w' ⟨rfl, q4, rfl⟩
                go_wp2_with (fail)
                obtain ⟨A3, hA3⟩ : ∃ A, W6.heap.size + q4.bl.size = A := ⟨_, rfl⟩
                rw [hA3]
                refine wp_world (fun W => Below w.heap.size w W ∧ BoxM W w.heap.size na pa Na ca fa ∧ BoxS W (w.heap.size + 1) lo true hi hs false ∧ SlR W q M T ∧ BoxM W A1 y1 p1 Y1 c1 h1 ∧ PairAt W Z (a' * 2) u1 u2 ∧ BoxR W A3 hi 1) ⟨by (repeat' (first | (with_reducible assumption) | (with_reducible exact Below.refl _ _) | (with_reducible refine below_wov ?_ ?_ _) | (with_reducible refine below_drewN ?_ _) | (with_reducible refine Below.drew ?_) | (with_reducible refine Below.alloc ?_ ?_ _) | (with_reducible refine Below.setCell ?_ ?_ _) | (with_reducible exact Nat.le_refl _) | omega | (simp only [World.size_alloc, World.size_setCell, World.size_drew, Wov_size, World.heap_drewN]; omega))), m6_0.below (by (repeat' (first | (with_reducible assumption) | (with_reducible exact Below.refl _ _) | (with_reducible refine below_wov ?_ ?_ _) | (with_reducible refine below_drewN ?_ _) | (with_reducible refine Below.drew ?_) | (with_reducible refine Below.alloc ?_ ?_ _) | (with_reducible refine Below.setCell ?_ ?_ _) | (with_reducible exact Nat.le_refl _) | omega | (simp only [World.size_alloc, World.size_setCell, World.size_drew, Wov_size, World.heap_drewN]; omega)))), m6_1.below (by (repeat' (first | (with_reducible assumption) | (with_reducible exact Below.refl _ _) | (with_reducible refine below_wov ?_ ?_ _) | (with_reducible refine below_drewN ?_ _) | (with_reducible refine Below.drew ?_) | (with_reducible refine Below.alloc ?_ ?_ _) | (with_reducible refine Below.setCell ?_ ?_ _) | (with_reducible exact Nat.le_refl _) | omega | (simp only [World.size_alloc, World.size_setCell, World.size_drew, Wov_size, World.heap_drewN]; omega)))), m6_2.below (by (repeat' (first | (with_reducible assumption) | (with_reducible exact Below.refl _ _) | (with_reducible refine below_wov ?_ ?_ _) | (with_reducible refine below_drewN ?_ _) | (with_reducible refine Below.drew ?_) | (with_reducible refine Below.alloc ?_ ?_ _) | (with_reducible refine Below.setCell ?_ ?_ _) | (with_reducible exact Nat.le_refl _) | omega | (simp only [World.size_alloc, World.size_setCell, World.size_drew, Wov_size, World.heap_drewN]; omega)))), m6_3.below (by (repeat' (first | (with_reducible assumption) | (with_reducible exact Below.refl _ _) | (with_reducible refine below_wov ?_ ?_ _) | (with_reducible refine below_drewN ?_ _) | (with_reducible refine Below.drew ?_) | (with_reducible refine Below.alloc ?_ ?_ _) | (with_reducible refine Below.setCell ?_ ?_ _) | (with_reducible exact Nat.le_refl _) | omega | (simp only [World.size_alloc, World.size_setCell, World.size_drew, Wov_size, World.heap_drewN]; omega)))), m6_4.below (by (repeat' (first | (with_reducible assumption) | (with_reducible exact Below.refl _ _) | (with_reducible refine below_wov ?_ ?_ _) | (with_reducible refine below_drewN ?_ _) | (with_reducible refine Below.drew ?_) | (with_reducible refine Below.alloc ?_ ?_ _) | (with_reducible refine Below.setCell ?_ ?_ _) | (with_reducible exact Nat.le_refl _) | omega | (simp only [World.size_alloc, World.size_setCell, World.size_drew, Wov_size, World.heap_drewN]; omega)))), BoxR.new (by rw [← hA3]; (try simp only [Wov_size]))⟩ ?_
                rintro W7 ⟨hb7, m7_0, m7_1, m7_2, m7_3, m7_4, m7_5⟩
                clear hb6 f6_0_lt f6_0_c0 f6_0_c1 f6_1_lt f6_1_c0 f6_1_c1 f6_1_c2 f6_1_c3 f6_1_c4 f6_3_lt f6_3_c0 f6_3_c1 f6_4_lt f6_4_c0 f6_4_c1 m6_0 m6_1 m6_2 m6_3 m6_4
                have f7_0_lt := m7_0.lt
                have f7_0_c0 := m7_0.c0
                have f7_0_c1 := m7_0.c1
                have f7_1_lt := m7_1.lt
                have f7_1_c0 := m7_1.c0
                have f7_1_c1 := m7_1.c1
                have f7_1_c2 := m7_1.c2
                have f7_1_c3 := m7_1.c3
                have f7_1_c4 := m7_1.c4
                have f7_3_lt := m7_3.lt
                have f7_3_c0 := m7_3.c0
                have f7_3_c1 := m7_3.c1
                have f7_4_lt := m7_4.lt
                have f7_4_c0 := m7_4.c0
                have f7_4_c1 := m7_4.c1
                have f7_5_lt := m7_5.lt
                have f7_5_c0 := m7_5.c0
                have f7_5_c1 := m7_5.c1
                refine wp_region_wov (by kernel_rfl) (by kernel_rfl) ?_
                repeat (go_big_quiet_step ((go_at_call 23; (first | exact (CM2.out).at _ _ | exact (CM2.out).at2 _ _ _ | exact (CM2.out).at3 _ _ _ _ | exact (CM2.out).at4 _ _ _ _ _ | exact (CM2.out).at5 _ _ _ _ _ _ | exact (CM2.out).at6 _ _ _ _ _ _ _))))
                refine wpQuiet_nil ?_
                rintro _ ⟨pq, rfl⟩
                rcases hm0 with rfl | rfl | rfl
                all_goals
                  have h6 := H6.out (by simp)
                  have hi := HIN.out
                  clear H6 H0 HIN
                  simp [cmpIn] at hi
                  subst hi
                  cases one
                  all_goals (try simp at h6)
                  all_goals
                    go_wp2
                    all_goals
                      go_ret
                      exact gives_bool (by simp_all) (by (repeat' (first | (with_reducible assumption) | (with_reducible exact Below.refl _ _) | (with_reducible refine below_wov ?_ ?_ _) | (with_reducible refine below_drewN ?_ _) | (with_reducible refine Below.drew ?_) | (with_reducible refine Below.alloc ?_ ?_ _) | (with_reducible refine Below.setCell ?_ ?_ _) | (with_reducible exact Nat.le_refl _) | omega | (simp only [World.size_alloc, World.size_setCell, World.size_drew, Wov_size, World.heap_drewN]; omega))))
              · skip
                have h6 := H6.out (by simp)
                have hi := HIN.out
                clear H6 H0 HIN
                simp [cmpIn] at hi
                subst hi
                cases one
                all_goals (try simp at h6)
                all_goals
                  go_wp2
                  all_goals
                    go_ret
                    exact gives_bool (by simp_all) (by (repeat' (first | (with_reducible assumption) | (with_reducible exact Below.refl _ _) | (with_reducible refine below_wov ?_ ?_ _) | (with_reducible refine below_drewN ?_ _) | (with_reducible refine Below.drew ?_) | (with_reducible refine Below.alloc ?_ ?_ _) | (with_reducible refine Below.setCell ?_ ?_ _) | (with_reducible exact Nat.le_refl _) | omega | (simp only [World.size_alloc, World.size_setCell, World.size_drew, Wov_size, World.heap_drewN]; omega))))
          · skip
            cases op
            · skip
              go_wp2_with (fail)
              refine calls_world (fun W => Below w.heap.size w W ∧ BoxM W w.heap.size na pa Na ca fa ∧ BoxS W (w.heap.size + 1) lo ls hi hs false ∧ SlR W q M T ∧ BoxM W A1 y1 p1 Y1 c1 h1 ∧ PairAt W Z (a' * 2) u1 u2) ⟨by (repeat' (first | (with_reducible assumption) | (with_reducible exact Below.refl _ _) | (with_reducible refine below_wov ?_ ?_ _) | (with_reducible refine below_drewN ?_ _) | (with_reducible refine Below.drew ?_) | (with_reducible refine Below.alloc ?_ ?_ _) | (with_reducible refine Below.setCell ?_ ?_ _) | (with_reducible exact Nat.le_refl _) | omega | (simp only [World.size_alloc, World.size_setCell, World.size_drew, Wov_size, World.heap_drewN]; omega))), m5_0.below (by (repeat' (first | (with_reducible assumption) | (with_reducible exact Below.refl _ _) | (with_reducible refine below_wov ?_ ?_ _) | (with_reducible refine below_drewN ?_ _) | (with_reducible refine Below.drew ?_) | (with_reducible refine Below.alloc ?_ ?_ _) | (with_reducible refine Below.setCell ?_ ?_ _) | (with_reducible exact Nat.le_refl _) | omega | (simp only [World.size_alloc, World.size_setCell, World.size_drew, Wov_size, World.heap_drewN]; omega)))), m5_1.below (by (repeat' (first | (with_reducible assumption) | (with_reducible exact Below.refl _ _) | (with_reducible refine below_wov ?_ ?_ _) | (with_reducible refine below_drewN ?_ _) | (with_reducible refine Below.drew ?_) | (with_reducible refine Below.alloc ?_ ?_ _) | (with_reducible refine Below.setCell ?_ ?_ _) | (with_reducible exact Nat.le_refl _) | omega | (simp only [World.size_alloc, World.size_setCell, World.size_drew, Wov_size, World.heap_drewN]; omega)))), m5_2.below (by (repeat' (first | (with_reducible assumption) | (with_reducible exact Below.refl _ _) | (with_reducible refine below_wov ?_ ?_ _) | (with_reducible refine below_drewN ?_ _) | (with_reducible refine Below.drew ?_) | (with_reducible refine Below.alloc ?_ ?_ _) | (with_reducible refine Below.setCell ?_ ?_ _) | (with_reducible exact Nat.le_refl _) | omega | (simp only [World.size_alloc, World.size_setCell, World.size_drew, Wov_size, World.heap_drewN]; omega)))), m5_3.below (by (repeat' (first | (with_reducible assumption) | (with_reducible exact Below.refl _ _) | (with_reducible refine below_wov ?_ ?_ _) | (with_reducible refine below_drewN ?_ _) | (with_reducible refine Below.drew ?_) | (with_reducible refine Below.alloc ?_ ?_ _) | (with_reducible refine Below.setCell ?_ ?_ _) | (with_reducible exact Nat.le_refl _) | omega | (simp only [World.size_alloc, World.size_setCell, World.size_drew, Wov_size, World.heap_drewN]; omega)))), m5_4.below (by (repeat' (first | (with_reducible assumption) | (with_reducible exact Below.refl _ _) | (with_reducible refine below_wov ?_ ?_ _) | (with_reducible refine below_drewN ?_ _) | (with_reducible refine Below.drew ?_) | (with_reducible refine Below.alloc ?_ ?_ _) | (with_reducible refine Below.setCell ?_ ?_ _) | (with_reducible exact Nat.le_refl _) | omega | (simp only [World.size_alloc, World.size_setCell, World.size_drew, Wov_size, World.heap_drewN]; omega))))⟩ ?_
              rintro W6 ⟨hb6, m6_0, m6_1, m6_2, m6_3, m6_4⟩
              clear hb5 f5_0_lt f5_0_c0 f5_0_c1 f5_1_lt f5_1_c0 f5_1_c1 f5_1_c2 f5_1_c3 f5_1_c4 f5_3_lt f5_3_c0 f5_3_c1 f5_4_lt f5_4_c0 f5_4_c1 f5_5_lt f5_5_c0 f5_5_c1 m5_0 m5_1 m5_2 m5_3 m5_4 m5_5
              have f6_0_lt := m6_0.lt
              have f6_0_c0 := m6_0.c0
              have f6_0_c1 := m6_0.c1
              have f6_1_lt := m6_1.lt
              have f6_1_c0 := m6_1.c0
              have f6_1_c1 := m6_1.c1
              have f6_1_c2 := m6_1.c2
              have f6_1_c3 := m6_1.c3
              have f6_1_c4 := m6_1.c4
              have f6_3_lt := m6_3.lt
              have f6_3_c0 := m6_3.c0
              have f6_3_c1 := m6_3.c1
              have f6_4_lt := m6_4.lt
              have f6_4_c0 := m6_4.c0
              have f6_4_c1 := m6_4.c1
              refine (OH.out _).mono ?_; rintro e w' ⟨rfl, q4, rfl⟩
              go_wp2_with (fail)
              obtain ⟨A3, hA3⟩ : ∃ A, W6.heap.size + q4.bl.size = A := ⟨_, rfl⟩
              rw [hA3]
              refine wp_world (fun W => Below w.heap.size w W ∧ BoxM W w.heap.size na pa Na ca fa ∧ BoxS W (w.heap.size + 1) lo ls hi hs false ∧ SlR W q M T ∧ BoxM W A1 y1 p1 Y1 c1 h1 ∧ PairAt W Z (a' * 2) u1 u2 ∧ BoxR W A3 hi 1) ⟨by (repeat' (first | (with_reducible assumption) | (with_reducible exact Below.refl _ _) | (with_reducible refine below_wov ?_ ?_ _) | (with_reducible refine below_drewN ?_ _) | (with_reducible refine Below.drew ?_) | (with_reducible refine Below.alloc ?_ ?_ _) | (with_reducible refine Below.setCell ?_ ?_ _) | (with_reducible exact Nat.le_refl _) | omega | (simp only [World.size_alloc, World.size_setCell, World.size_drew, Wov_size, World.heap_drewN]; omega))), m6_0.below (by (repeat' (first | (with_reducible assumption) | (with_reducible exact Below.refl _ _) | (with_reducible refine below_wov ?_ ?_ _) | (with_reducible refine below_drewN ?_ _) | (with_reducible refine Below.drew ?_) | (with_reducible refine Below.alloc ?_ ?_ _) | (with_reducible refine Below.setCell ?_ ?_ _) | (with_reducible exact Nat.le_refl _) | omega | (simp only [World.size_alloc, World.size_setCell, World.size_drew, Wov_size, World.heap_drewN]; omega)))), m6_1.below (by (repeat' (first | (with_reducible assumption) | (with_reducible exact Below.refl _ _) | (with_reducible refine below_wov ?_ ?_ _) | (with_reducible refine below_drewN ?_ _) | (with_reducible refine Below.drew ?_) | (with_reducible refine Below.alloc ?_ ?_ _) | (with_reducible refine Below.setCell ?_ ?_ _) | (with_reducible exact Nat.le_refl _) | omega | (simp only [World.size_alloc, World.size_setCell, World.size_drew, Wov_size, World.heap_drewN]; omega)))), m6_2.below (by (repeat' (first | (with_reducible assumption) | (with_reducible exact Below.refl _ _) | (with_reducible refine below_wov ?_ ?_ _) | (with_reducible refine below_drewN ?_ _) | (with_reducible refine Below.drew ?_) | (with_reducible refine Below.alloc ?_ ?_ _) | (with_reducible refine Below.setCell ?_ ?_ _) | (with_reducible exact Nat.le_refl _) | omega | (simp only [World.size_alloc, World.size_setCell, World.size_drew, Wov_size, World.heap_drewN]; omega)))), m6_3.below (by (repeat' (first | (with_reducible assumption) | (with_reducible exact Below.refl _ _) | (with_reducible refine below_wov ?_ ?_ _) | (with_reducible refine below_drewN ?_ _) | (with_reducible refine Below.drew ?_) | (with_reducible refine Below.alloc ?_ ?_ _) | (with_reducible refine Below.setCell ?_ ?_ _) | (with_reducible exact Nat.le_refl _) | omega | (simp only [World.size_alloc, World.size_setCell, World.size_drew, Wov_size, World.heap_drewN]; omega)))), m6_4.below (by (repeat' (first | (with_reducible assumption) | (with_reducible exact Below.refl _ _) | (with_reducible refine below_wov ?_ ?_ _) | (with_reducible refine below_drewN ?_ _) | (with_reducible refine Below.drew ?_) | (with_reducible refine Below.alloc ?_ ?_ _) | (with_reducible refine Below.setCell ?_ ?_ _) | (with_reducible exact Nat.le_refl _) | omega | (simp only [World.size_alloc, World.size_setCell, World.size_drew, Wov_size, World.heap_drewN]; omega)))), BoxR.new (by rw [← hA3]; (try simp only [Wov_size]))⟩ ?_
              rintro W7 ⟨hb7, m7_0, m7_1, m7_2, m7_3, m7_4, m7_5⟩
              clear hb6 f6_0_lt f6_0_c0 f6_0_c1 f6_1_lt f6_1_c0 f6_1_c1 f6_1_c2 f6_1_c3 f6_1_c4 f6_3_lt f6_3_c0 f6_3_c1 f6_4_lt f6_4_c0 f6_4_c1 m6_0 m6_1 m6_2 m6_3 m6_4
              have f7_0_lt := m7_0.lt
              have f7_0_c0 := m7_0.c0
              have f7_0_c1 := m7_0.c1
              have f7_1_lt := m7_1.lt
              have f7_1_c0 := m7_1.c0
              have f7_1_c1 := m7_1.c1
              have f7_1_c2 := m7_1.c2
              have f7_1_c3 := m7_1.c3
              have f7_1_c4 := m7_1.c4
              have f7_3_lt := m7_3.lt
              have f7_3_c0 := m7_3.c0
              have f7_3_c1 := m7_3.c1
              have f7_4_lt := m7_4.lt
              have f7_4_c0 := m7_4.c0
              have f7_4_c1 := m7_4.c1
              have f7_5_lt := m7_5.lt
              have f7_5_c0 := m7_5.c0
              have f7_5_c1 := m7_5.c1
              refine wp_region_wov (by kernel_rfl) (by kernel_rfl) ?_
              repeat (go_big_quiet_step ((go_at_call 23; (first | exact (CM2.out).at _ _ | exact (CM2.out).at2 _ _ _ | exact (CM2.out).at3 _ _ _ _ | exact (CM2.out).at4 _ _ _ _ _ | exact (CM2.out).at5 _ _ _ _ _ _ | exact (CM2.out).at6 _ _ _ _ _ _ _))))
              refine wpQuiet_nil ?_
              rintro _ ⟨pq, rfl⟩
              rcases hm0 with rfl | rfl | rfl
              all_goals
                have h6 := H6.out (by simp)
                have hi := HIN.out
                clear H6 H0 HIN
                simp [cmpIn] at hi
                subst hi
                cases one
                all_goals (try simp at h6)
                all_goals
                  go_wp2
                  all_goals
                    go_ret
                    exact gives_bool (by simp_all) (by (repeat' (first | (with_reducible assumption) | (with_reducible exact Below.refl _ _) | (with_reducible refine below_wov ?_ ?_ _) | (with_reducible refine below_drewN ?_ _) | (with_reducible refine Below.drew ?_) | (with_reducible refine Below.alloc ?_ ?_ _) | (with_reducible refine Below.setCell ?_ ?_ _) | (with_reducible exact Nat.le_refl _) | omega | (simp only [World.size_alloc, World.size_setCell, World.size_drew, Wov_size, World.heap_drewN]; omega))))
            · skip
              have h6 := H6.out (by simp)
              have hi := HIN.out
              clear H6 H0 HIN
              simp [cmpIn] at hi
              subst hi
              cases one
              all_goals (try simp at h6)
              all_goals
                go_wp2
                all_goals
                  go_ret
                  exact gives_bool (by simp_all) (by (repeat' (first | (with_reducible assumption) | (with_reducible exact Below.refl _ _) | (with_reducible refine below_wov ?_ ?_ _) | (with_reducible refine below_drewN ?_ _) | (with_reducible refine Below.drew ?_) | (with_reducible refine Below.alloc ?_ ?_ _) | (with_reducible refine Below.setCell ?_ ?_ _) | (with_reducible exact Nat.le_refl _) | omega | (simp only [World.size_alloc, World.size_setCell, World.size_drew, Wov_size, World.heap_drewN]; omega))))
      · skip
        have bf : (f0 != 0) = true := by rw [bne_iff_ne]; exact hf
        have bf2 : (f0 != 6) = true := by rw [bne_iff_ne]; exact hf2
        clear hf hf2 tp1
        go_wp2
        all_goals
          go_ret
          exact gives_bool (by simp) (by (repeat' (first | (with_reducible assumption) | (with_reducible exact Below.refl _ _) | (with_reducible refine below_wov ?_ ?_ _) | (with_reducible refine below_drewN ?_ _) | (with_reducible refine Below.drew ?_) | (with_reducible refine Below.alloc ?_ ?_ _) | (with_reducible refine Below.setCell ?_ ?_ _) | (with_reducible exact Nat.le_refl _) | omega | (simp only [World.size_alloc, World.size_setCell, World.size_drew, Wov_size, World.heap_drewN]; omega))))
    · skip
      have be : (e0 != 0) = true := by rw [bne_iff_ne]; exact he
      clear tp1
      go_wp2
      all_goals
        go_ret
        exact gives_bool (by simp) (by (repeat' (first | (with_reducible assumption) | (with_reducible exact Below.refl _ _) | (with_reducible refine below_wov ?_ ?_ _) | (with_reducible refine below_drewN ?_ _) | (with_reducible refine Below.drew ?_) | (with_reducible refine Below.alloc ?_ ?_ _) | (with_reducible refine Below.setCell ?_ ?_ _) | (with_reducible exact Nat.le_refl _) | omega | (simp only [World.size_alloc, World.size_setCell, World.size_drew, Wov_size, World.heap_drewN]; omega))))
end Go.Proofs.Ytlcbpckinjkfeaa.tightSpans
