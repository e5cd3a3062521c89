/- The law TightKept (walk): times keep what has a bound more just if they keep both. No condition. -/
import Derived.Test.YtlcbpckinjkfeaaE9
import Derived.Test.YtlcbpckinjkfeaaE11
import Derived.Test.YtlcbpckinjkfeaaD22
namespace Go.Proofs.Ytlcbpckinjkfeaa.tightKept
open Go.ChangeShapes Go.WideShapes Go.ChangeAt Go.RowKit
set_option linter.unusedVariables false
set_option linter.unusedSimpArgs false
attribute [local go_sem] Nat.add_assoc Nat.add_lt_add_iff_left lit_lt_add

theorem slR_at {W : World} {Z L : Nat} {T : Nat → Int × Int} (h : SlR W (some ⟨Z, 0, none⟩) L T) {x : Nat} (hx : x < L) : Z < W.heap.size ∧ W.cell? ⟨Z, x * 2, none⟩ = some (.int .i64 (T x).1) ∧ W.cell? ⟨Z, x * 2 + 1, none⟩ = some (.int .i64 (T x).2) := by
  rcases h with h | ⟨B, off, h1, h2, h3⟩
  · omega
  · simp only [Option.some.injEq, Addr.mk.injEq, and_true] at h1
    obtain ⟨rfl, rfl⟩ := h1
    have := h3 x hx
    rw [Nat.zero_add, Nat.zero_add] at this
    exact ⟨h2, this⟩
theorem tm_fits {M : Nat} {T : Nat → Int × Int} (h : FitsR M T) : ∀ x, x < M + 1 → fits64 (tm T x).1 ∧ fits64 (tm T x).2
  | 0, _ => ⟨(by decide : fits64 0), (by decide : fits64 1)⟩
  | x + 1, hx => h x (by omega)

set_option maxRecDepth 100000 in
set_option maxHeartbeats 16000000 in
theorem walk (na : Int) (pa : Option Addr) (Na ca : Nat) (fa : Nat → Int) (wna : fits64 na) (nb : Int) (pb : Option Addr) (Nb cb : Nat) (fb : Nat → Int) (wnb : fits64 nb) (i : Int) (wi : (Lit.int .i64 i).wf = true) (j : Int) (wj : (Lit.int .i64 j).wf = true) (x : Int) (wx : (Lit.int .i64 x).wf = true) (q : Option Addr) (M cq : Nat) (T : Nat → Int × Int) (w : World) (hSa : SlP w pa Na fa) (hFa : Fits Na fa) (hNa : Na ≤ maxLen) (hSb : SlP w pb Nb fb) (hFb : Fits Nb fb) (hNb : Nb ≤ maxLen) (hST : SlR w q M T) (hFT : FitsR M T) (hM : M ≤ maxLen) :
    Calls Try.prog 8 #[.agg #[.int .i64 na, .slice pa Na ca], .agg #[.int .i64 nb, .slice pb Nb cb], .int .i64 i, .int .i64 j, .int .i64 x, .slice q M cq] w (Gives w (.bool true)) := by
  have wx := fits_of_wf wx
  have HA := Lib.hid alive5
  unfold maxLen at hNa hNb hM
  by_cases hbig : 1000 < Na ∨ 1000 < Nb ∨ 100 < M
  · clear hSa hSb hFa hFb hST hFT
    by_cases hb1 : 1000 < Na
    · go_enter Try.func8, Try.ntmps8
      go_wp2_with (fail)
      refine (HA.out _).mono ?_; rintro e w' ⟨rfl, p1, rfl⟩
      go_wp2
      all_goals
        go_ret
        exact gives_bool rfl (by (repeat' (first | (with_reducible assumption) | (with_reducible exact Below.refl _ _) | (with_reducible refine below_wov ?_ ?_ _) | (with_reducible refine below_drewN ?_ _) | (with_reducible refine Below.drew ?_) | (with_reducible refine Below.alloc ?_ ?_ _) | (with_reducible refine Below.setCell ?_ ?_ _) | (with_reducible exact Nat.le_refl _) | omega | (simp only [World.size_alloc, World.size_setCell, World.size_drew, Wov_size, World.heap_drewN]; omega))))
    · by_cases hb2 : 1000 < Nb
      · go_enter Try.func8, Try.ntmps8
        go_wp2_with (fail)
        refine (HA.out _).mono ?_; rintro e w' ⟨rfl, p1, rfl⟩
        go_wp2
        all_goals
          go_ret
          exact gives_bool rfl (by (repeat' (first | (with_reducible assumption) | (with_reducible exact Below.refl _ _) | (with_reducible refine below_wov ?_ ?_ _) | (with_reducible refine below_drewN ?_ _) | (with_reducible refine Below.drew ?_) | (with_reducible refine Below.alloc ?_ ?_ _) | (with_reducible refine Below.setCell ?_ ?_ _) | (with_reducible exact Nat.le_refl _) | omega | (simp only [World.size_alloc, World.size_setCell, World.size_drew, Wov_size, World.heap_drewN]; omega))))
      · have hb3 : 100 < M := by omega
        go_enter Try.func8, Try.ntmps8
        go_wp2_with (fail)
        refine (HA.out _).mono ?_; rintro e w' ⟨rfl, p1, rfl⟩
        go_wp2
        all_goals
          go_ret
          exact gives_bool rfl (by (repeat' (first | (with_reducible assumption) | (with_reducible exact Below.refl _ _) | (with_reducible refine below_wov ?_ ?_ _) | (with_reducible refine below_drewN ?_ _) | (with_reducible refine Below.drew ?_) | (with_reducible refine Below.alloc ?_ ?_ _) | (with_reducible refine Below.setCell ?_ ?_ _) | (with_reducible exact Nat.le_refl _) | omega | (simp only [World.size_alloc, World.size_setCell, World.size_drew, Wov_size, World.heap_drewN]; omega))))
  · have hNa3 : Na ≤ 1000 := by omega
    have hNb3 : Nb ≤ 1000 := by omega
    have hM3 : M ≤ 100 := by omega
    have hM2 : M ≤ 1000000 := by omega
    obtain ⟨⟨one, e0⟩, h_0⟩ : ∃ r, r = keepsD na Na fa M T := ⟨_, rfl⟩
    obtain ⟨⟨two, gg⟩, h_1⟩ : ∃ r, r = keepsD nb Nb fb M T := ⟨_, rfl⟩
    obtain ⟨⟨y1, Y1, h1, f0⟩, h_5⟩ : ∃ r, r = setM na Na fa i j x := ⟨_, rfl⟩
    obtain ⟨⟨z1, Z1, k1, hh⟩, h_6⟩ : ∃ r, r = meetM na Na fa nb Nb fb := ⟨_, rfl⟩
    obtain ⟨s1, hs1⟩ : ∃ s, s = okD y1 Y1 h1 := ⟨_, rfl⟩
    obtain ⟨s3, hs3⟩ : ∃ s, s = okD z1 Z1 k1 := ⟨_, rfl⟩
    obtain ⟨L, hL⟩ : ∃ L, M + 1 = L := ⟨_, rfl⟩
    have HL := Lib.hid hL
    have o5 : MRok ⟨y1, Y1, h1, f0⟩ := by rw [h_5]; exact setM_ok _ _ _ _ _ _
    have o6 : MRok ⟨z1, Z1, k1, hh⟩ := by rw [h_6]; exact meetM_ok _ _ _ _ _ _
    have KE : Hid (∀ W c, SlP W pa Na fa → SlR W q M T → Calls Try.prog 31 #[.agg #[.int .i64 na, .slice pa Na c], .slice q M cq] W (Gives W (.tuple #[.bool one, .int .i64 e0]))) := fun W c h g => by
      have := keepsD_any na Na pa c fa q M cq T W wna h hFa (by omega) g hFT (by omega)
      rw [← h_0] at this; exact this
    have KB : Hid (∀ W c, SlP W pb Nb fb → SlR W q M T → Calls Try.prog 31 #[.agg #[.int .i64 nb, .slice pb Nb c], .slice q M cq] W (Gives W (.tuple #[.bool two, .int .i64 gg]))) := fun W c h g => by
      have := keepsD_any nb Nb pb c fb q M cq T W wnb h hFb (by omega) g hFT (by omega)
      rw [← h_1] at this; exact this
    have SET : Hid (∀ W, SlP W pa Na fa → Calls Try.prog 39 #[.agg #[.int .i64 na, .slice pa Na ca], .int .i64 i, .int .i64 j, .int .i64 x] W (matC W y1 Y1 h1 f0)) := fun W h => by
      have := set_any na pa Na ca fa i j x W wna h hFa (by omega) wx
      rwa [← h_5] at this
    have MT : Hid (∀ W c d, SlP W pa Na fa → SlP W pb Nb fb → Calls Try.prog 40 #[.agg #[.int .i64 na, .slice pa Na c], .agg #[.int .i64 nb, .slice pb Nb d]] W (matC W z1 Z1 k1 hh)) := fun W c d h g => by
      have := meet_any na pa Na c fa nb pb Nb d fb W wna wnb h g hFa hFb (by omega) (by omega)
      rwa [← h_6] at this
    have CC : Hid (∀ W p c, SlP W p Y1 h1 → Calls Try.prog 35 #[.agg #[.int .i64 y1, .slice p Y1 c]] W (Gives W (.int .i64 (rcode s1)))) := fun W p c h => by
      have := dbmCheck_any y1 p Y1 c h1 W o5.n h o5.f (by have := o5.N; simp only at this; omega)
      rwa [← hs1] at this
    have CD : Hid (∀ W p c, SlP W p Z1 k1 → Calls Try.prog 35 #[.agg #[.int .i64 z1, .slice p Z1 c]] W (Gives W (.int .i64 (rcode s3)))) := fun W p c h => by
      have := dbmCheck_any z1 p Z1 c k1 W o6.n h o6.f (by have := o6.N; simp only at this; omega)
      rwa [← hs3] at this
    have KCC : Hid (∀ b, keepsD y1 Y1 h1 M T = (b, 0) → Hid (∀ W p c, SlP W p Y1 h1 → SlR W q M T → Calls Try.prog 31 #[.agg #[.int .i64 y1, .slice p Y1 c], .slice q M cq] W (Gives W (.tuple #[.bool b, .int .i64 0])))) := fun b hb W p c h g => by
      have := keepsD_any y1 Y1 p c h1 q M cq T W o5.n h o5.f (by have := o5.N; simp only at this; omega) g hFT (by omega)
      rw [hb] at this; exact this
    have KDD : Hid (∀ b, (s3 = true → keepsD z1 Z1 k1 M T = (b, 0)) → (s3 = true → ∀ W p c, SlP W p Z1 k1 → SlR W q M T → Calls Try.prog 31 #[.agg #[.int .i64 z1, .slice p Z1 c], .slice q M cq] W (Gives W (.tuple #[.bool b, .int .i64 0])))) := fun b hb h3 W p c h g => by
      have := keepsD_any z1 Z1 p c k1 q M cq T W o6.n h o6.f (by have := o6.N; simp only at this; omega) g hFT (by omega)
      rw [hb h3] at this; exact this
    have KPP : Hid (∀ a' b' so, a' < M + 1 → b' < M + 1 → keepsPR (tm T a').1 (tm T a').2 (tm T b').1 (tm T b').2 x = (so, 0) → Pure Try.prog 24 #[.agg #[.int .i64 (tm T a').1, .int .i64 (tm T a').2], .agg #[.int .i64 (tm T b').1, .int .i64 (tm T b').2], .int .i64 x] (.tuple #[.bool so, .int .i64 0])) := fun a' b' so ha hb hk => by
      have := ratKeeps_any (tm T a').1 (tm T a').2 (tm T b').1 (tm T b').2 x (tm_fits hFT a' ha).1 (tm_fits hFT b' hb).1 wx
      rw [hk] at this; exact this
    have SK : Hid (e0 = 0 → (f0 = 0 ∨ f0 = 6) → ∃ (a' b' : Nat) (so : Bool), i = (a' : Int) ∧ j = (b' : Int) ∧ a' < M + 1 ∧ b' < M + 1 ∧ keepsPR (tm T a').1 (tm T a').2 (tm T b').1 (tm T b').2 x = (so, 0) ∧ (f0 = 6 → (one && so) = false) ∧ (s1 = true → f0 = 0 → keepsD y1 Y1 h1 M T = (one && so, 0))) := fun h g => by
      subst h
      have := set_kept h_5 h_0.symm g
      rw [hs1]; exact this
    have MK : Hid (e0 = 0 → gg = 0 → (hh = 6 ∧ (one && two) = false) ∨ (hh = 0 ∧ (s3 = true → keepsD z1 Z1 k1 M T = (one && two, 0)))) := fun h g => by
      subst h; subst g
      have := meet_kept h_6 h_0.symm h_1.symm
      rw [hs3]; exact this
    have FK : Hid ((f0 = 0 ∨ f0 = 6) ∨ (f0 ≠ 0 ∧ f0 ≠ 6)) := by show _ ∨ _; omega
    have SA := Lib.hid hSa
    have SB := Lib.hid hSb
    have ST := Lib.hid hST
    clear h_0 h_1 h_5 h_6 hs1 hs3 o5 o6 hSa hSb hFa hFb hST hFT hbig wna wnb wi wj wx hL
    go_enter Try.func8, Try.ntmps8
    go_wp2_with (fail)
    refine calls_world (fun W => Below w.heap.size w W ∧ BoxM W w.heap.size na pa Na ca fa ∧ BoxM W (w.heap.size + 1) nb pb Nb cb fb ∧ SlR W q M T) ⟨by (repeat' (first | (with_reducible assumption) | (with_reducible exact Below.refl _ _) | (with_reducible refine below_wov ?_ ?_ _) | (with_reducible refine below_drewN ?_ _) | (with_reducible refine Below.drew ?_) | (with_reducible refine Below.alloc ?_ ?_ _) | (with_reducible refine Below.setCell ?_ ?_ _) | (with_reducible exact Nat.le_refl _) | omega | (simp only [World.size_alloc, World.size_setCell, World.size_drew, Wov_size, World.heap_drewN]; omega))), (BoxM.new (W := w) (t := 39) (SA.out) (by simp)).below (by (repeat' (first | (with_reducible assumption) | (with_reducible exact Below.refl _ _) | (with_reducible refine below_wov ?_ ?_ _) | (with_reducible refine below_drewN ?_ _) | (with_reducible refine Below.drew ?_) | (with_reducible refine Below.alloc ?_ ?_ _) | (with_reducible refine Below.setCell ?_ ?_ _) | (with_reducible exact Nat.le_refl _) | omega | (simp only [World.size_alloc, World.size_setCell, World.size_drew, Wov_size, World.heap_drewN]; omega)))), (BoxM.new (W := (World.alloc w (.cells #[.int .i64 na, .slice pa Na ca] 39))) (t := 39) (SlP.below SB.out (by (repeat' (first | (with_reducible assumption) | (with_reducible exact Below.refl _ _) | (with_reducible refine below_wov ?_ ?_ _) | (with_reducible refine below_drewN ?_ _) | (with_reducible refine Below.drew ?_) | (with_reducible refine Below.alloc ?_ ?_ _) | (with_reducible refine Below.setCell ?_ ?_ _) | (with_reducible exact Nat.le_refl _) | omega | (simp only [World.size_alloc, World.size_setCell, World.size_drew, Wov_size, World.heap_drewN]; omega))))) (by simp)).below (by (repeat' (first | (with_reducible assumption) | (with_reducible exact Below.refl _ _) | (with_reducible refine below_wov ?_ ?_ _) | (with_reducible refine below_drewN ?_ _) | (with_reducible refine Below.drew ?_) | (with_reducible refine Below.alloc ?_ ?_ _) | (with_reducible refine Below.setCell ?_ ?_ _) | (with_reducible exact Nat.le_refl _) | omega | (simp only [World.size_alloc, World.size_setCell, World.size_drew, Wov_size, World.heap_drewN]; omega)))), ST.out.below (by (repeat' (first | (with_reducible assumption) | (with_reducible exact Below.refl _ _) | (with_reducible refine below_wov ?_ ?_ _) | (with_reducible refine below_drewN ?_ _) | (with_reducible refine Below.drew ?_) | (with_reducible refine Below.alloc ?_ ?_ _) | (with_reducible refine Below.setCell ?_ ?_ _) | (with_reducible exact Nat.le_refl _) | omega | (simp only [World.size_alloc, World.size_setCell, World.size_drew, Wov_size, World.heap_drewN]; omega))))⟩ ?_
    rintro W1 ⟨hb1, m1_0, m1_1, s1_0⟩
    have l1_0 := m1_0.lt
    have c1_0 := m1_0.c0
    have d1_0 := m1_0.c1
    have l1_1 := m1_1.lt
    have c1_1 := m1_1.c0
    have d1_1 := m1_1.c1
    refine (HA.out _).mono ?_; rintro e w' ⟨rfl, q0, rfl⟩
    go_wp2_with (fail)
    refine calls_world (fun W => Below w.heap.size w W ∧ BoxM W w.heap.size na pa Na ca fa ∧ BoxM W (w.heap.size + 1) nb pb Nb cb fb ∧ SlR W q M T) ⟨by (repeat' (first | (with_reducible assumption) | (with_reducible exact Below.refl _ _) | (with_reducible refine below_wov ?_ ?_ _) | (with_reducible refine below_drewN ?_ _) | (with_reducible refine Below.drew ?_) | (with_reducible refine Below.alloc ?_ ?_ _) | (with_reducible refine Below.setCell ?_ ?_ _) | (with_reducible exact Nat.le_refl _) | omega | (simp only [World.size_alloc, World.size_setCell, World.size_drew, Wov_size, World.heap_drewN]; omega))), m1_0.below (by (repeat' (first | (with_reducible assumption) | (with_reducible exact Below.refl _ _) | (with_reducible refine below_wov ?_ ?_ _) | (with_reducible refine below_drewN ?_ _) | (with_reducible refine Below.drew ?_) | (with_reducible refine Below.alloc ?_ ?_ _) | (with_reducible refine Below.setCell ?_ ?_ _) | (with_reducible exact Nat.le_refl _) | omega | (simp only [World.size_alloc, World.size_setCell, World.size_drew, Wov_size, World.heap_drewN]; omega)))), m1_1.below (by (repeat' (first | (with_reducible assumption) | (with_reducible exact Below.refl _ _) | (with_reducible refine below_wov ?_ ?_ _) | (with_reducible refine below_drewN ?_ _) | (with_reducible refine Below.drew ?_) | (with_reducible refine Below.alloc ?_ ?_ _) | (with_reducible refine Below.setCell ?_ ?_ _) | (with_reducible exact Nat.le_refl _) | omega | (simp only [World.size_alloc, World.size_setCell, World.size_drew, Wov_size, World.heap_drewN]; omega)))), s1_0.below (by (repeat' (first | (with_reducible assumption) | (with_reducible exact Below.refl _ _) | (with_reducible refine below_wov ?_ ?_ _) | (with_reducible refine below_drewN ?_ _) | (with_reducible refine Below.drew ?_) | (with_reducible refine Below.alloc ?_ ?_ _) | (with_reducible refine Below.setCell ?_ ?_ _) | (with_reducible exact Nat.le_refl _) | omega | (simp only [World.size_alloc, World.size_setCell, World.size_drew, Wov_size, World.heap_drewN]; omega))))⟩ ?_
    rintro W2 ⟨hb2, m2_0, m2_1, s2_0⟩
    have l2_0 := m2_0.lt
    have c2_0 := m2_0.c0
    have d2_0 := m2_0.c1
    have l2_1 := m2_1.lt
    have c2_1 := m2_1.c0
    have d2_1 := m2_1.c1
    clear hb1 l1_0 c1_0 d1_0 m1_0 l1_1 c1_1 d1_1 m1_1 s1_0
    refine (KE.out _ _ m2_0.sl s2_0).mono ?_; rintro e w' ⟨rfl, q1, rfl⟩
    by_cases he : e0 = 0
    · skip
      subst he
      go_wp2_with (at_builtin; refine wpList_all _ _ (by ((try simp only [World.size_alloc, Wov_size, Array.size_append]) <;> (try omega))) rfl _ _ rfl rfl rfl q M cq T rfl (s2_0.below (by (repeat' (first | (with_reducible assumption) | (with_reducible exact Below.refl _ _) | (with_reducible refine below_wov ?_ ?_ _) | (with_reducible refine below_drewN ?_ _) | (with_reducible refine Below.drew ?_) | (with_reducible refine Below.alloc ?_ ?_ _) | (with_reducible refine Below.setCell ?_ ?_ _) | (with_reducible exact Nat.le_refl _) | omega | (simp only [World.size_alloc, World.size_setCell, World.size_drew, Wov_size, World.heap_drewN]; omega))))) hM2 ?_; intro Z zc w1 hb1 hz1 hz2 hz3
                   have hbZ : Below W2.heap.size W2 w1 := Below.trans (by (repeat' (first | (with_reducible assumption) | (with_reducible exact Below.refl _ _) | (with_reducible refine below_wov ?_ ?_ _) | (with_reducible refine below_drewN ?_ _) | (with_reducible refine Below.drew ?_) | (with_reducible refine Below.alloc ?_ ?_ _) | (with_reducible refine Below.setCell ?_ ?_ _) | (with_reducible exact Nat.le_refl _) | omega | (simp only [World.size_alloc, World.size_setCell, World.size_drew, Wov_size, World.heap_drewN]; omega)))) (hb1.mono (by ((try simp only [World.size_alloc, Wov_size, Array.size_append]) <;> (try omega))))
                   have hbw1 : Below w.heap.size w w1 := hb2.trans (hbZ.mono hb2.size)
                   have y0 := (hbZ.cell (p := ⟨w.heap.size, 0, none⟩) l2_0).trans c2_0
                   have y1 := (hbZ.cell (p := ⟨w.heap.size, 1, none⟩) l2_0).trans d2_0
                   have t9 := slR_of hz3 hz2
                   rw [HL.out] at t9
                   rw [HL.out]
                   clear hb1 hz1 hz2 hz3)
      refine calls_world (fun W => Below w.heap.size w W ∧ BoxM W w.heap.size na pa Na ca fa ∧ BoxM W (w.heap.size + 1) nb pb Nb cb fb ∧ SlR W q M T ∧ SlR W (some ⟨Z, 0, none⟩) L (tm T)) ⟨by (repeat' (first | (with_reducible assumption) | (with_reducible exact Below.refl _ _) | (with_reducible refine below_wov ?_ ?_ _) | (with_reducible refine below_drewN ?_ _) | (with_reducible refine Below.drew ?_) | (with_reducible refine Below.alloc ?_ ?_ _) | (with_reducible refine Below.setCell ?_ ?_ _) | (with_reducible exact Nat.le_refl _) | omega | (simp only [World.size_alloc, World.size_setCell, World.size_drew, Wov_size, World.heap_drewN]; omega))), m2_0.below (by (repeat' (first | (with_reducible assumption) | (with_reducible exact Below.refl _ _) | (with_reducible refine below_wov ?_ ?_ _) | (with_reducible refine below_drewN ?_ _) | (with_reducible refine Below.drew ?_) | (with_reducible refine Below.alloc ?_ ?_ _) | (with_reducible refine Below.setCell ?_ ?_ _) | (with_reducible exact Nat.le_refl _) | omega | (simp only [World.size_alloc, World.size_setCell, World.size_drew, Wov_size, World.heap_drewN]; omega)))), m2_1.below (by (repeat' (first | (with_reducible assumption) | (with_reducible exact Below.refl _ _) | (with_reducible refine below_wov ?_ ?_ _) | (with_reducible refine below_drewN ?_ _) | (with_reducible refine Below.drew ?_) | (with_reducible refine Below.alloc ?_ ?_ _) | (with_reducible refine Below.setCell ?_ ?_ _) | (with_reducible exact Nat.le_refl _) | omega | (simp only [World.size_alloc, World.size_setCell, World.size_drew, Wov_size, World.heap_drewN]; omega)))), s2_0.below (by (repeat' (first | (with_reducible assumption) | (with_reducible exact Below.refl _ _) | (with_reducible refine below_wov ?_ ?_ _) | (with_reducible refine below_drewN ?_ _) | (with_reducible refine Below.drew ?_) | (with_reducible refine Below.alloc ?_ ?_ _) | (with_reducible refine Below.setCell ?_ ?_ _) | (with_reducible exact Nat.le_refl _) | omega | (simp only [World.size_alloc, World.size_setCell, World.size_drew, Wov_size, World.heap_drewN]; omega)))), t9⟩ ?_
      rintro W3 ⟨hb3, m3_0, m3_1, s3_0, s3_1⟩
      have l3_0 := m3_0.lt
      have c3_0 := m3_0.c0
      have d3_0 := m3_0.c1
      have l3_1 := m3_1.lt
      have c3_1 := m3_1.c0
      have d3_1 := m3_1.c1
      clear hb2 l2_0 c2_0 d2_0 m2_0 l2_1 c2_1 d2_1 m2_1 s2_0
      clear t9 y0 y1 hbZ hbw1
      refine (SET.out _ m3_0.sl).mono ?_; rintro e w' ⟨⟨p1, c1, rfl, ho⟩, q2, rfl⟩
      have tp1 := ho.slp
      clear ho
      rcases FK.out with (rfl | rfl) | ⟨hf, hf2⟩
      · skip
        obtain ⟨a', b', so, rfl, rfl, ha, hb, hk, h6, h0⟩ := SK.out (by simp) (by simp)
        go_wp2_with (fail)
        obtain ⟨A1, hA1⟩ : ∃ A, W3.heap.size + q2.bl.size = A := ⟨_, rfl⟩
        rw [hA1]
        refine wp_world (fun W => Below w.heap.size w W ∧ BoxM W w.heap.size na pa Na ca fa ∧ BoxM W (w.heap.size + 1) nb pb Nb cb fb ∧ BoxM W A1 y1 p1 Y1 c1 h1 ∧ SlR W q M T ∧ SlR W (some ⟨Z, 0, none⟩) L (tm T)) ⟨by (repeat' (first | (with_reducible assumption) | (with_reducible exact Below.refl _ _) | (with_reducible refine below_wov ?_ ?_ _) | (with_reducible refine below_drewN ?_ _) | (with_reducible refine Below.drew ?_) | (with_reducible refine Below.alloc ?_ ?_ _) | (with_reducible refine Below.setCell ?_ ?_ _) | (with_reducible exact Nat.le_refl _) | omega | (simp only [World.size_alloc, World.size_setCell, World.size_drew, Wov_size, World.heap_drewN]; omega))), m3_0.below (by (repeat' (first | (with_reducible assumption) | (with_reducible exact Below.refl _ _) | (with_reducible refine below_wov ?_ ?_ _) | (with_reducible refine below_drewN ?_ _) | (with_reducible refine Below.drew ?_) | (with_reducible refine Below.alloc ?_ ?_ _) | (with_reducible refine Below.setCell ?_ ?_ _) | (with_reducible exact Nat.le_refl _) | omega | (simp only [World.size_alloc, World.size_setCell, World.size_drew, Wov_size, World.heap_drewN]; omega)))), m3_1.below (by (repeat' (first | (with_reducible assumption) | (with_reducible exact Below.refl _ _) | (with_reducible refine below_wov ?_ ?_ _) | (with_reducible refine below_drewN ?_ _) | (with_reducible refine Below.drew ?_) | (with_reducible refine Below.alloc ?_ ?_ _) | (with_reducible refine Below.setCell ?_ ?_ _) | (with_reducible exact Nat.le_refl _) | omega | (simp only [World.size_alloc, World.size_setCell, World.size_drew, Wov_size, World.heap_drewN]; omega)))), BoxM.new (tp1) (by rw [← hA1]; (try simp only [Wov_size])), s3_0.below (by (repeat' (first | (with_reducible assumption) | (with_reducible exact Below.refl _ _) | (with_reducible refine below_wov ?_ ?_ _) | (with_reducible refine below_drewN ?_ _) | (with_reducible refine Below.drew ?_) | (with_reducible refine Below.alloc ?_ ?_ _) | (with_reducible refine Below.setCell ?_ ?_ _) | (with_reducible exact Nat.le_refl _) | omega | (simp only [World.size_alloc, World.size_setCell, World.size_drew, Wov_size, World.heap_drewN]; omega)))), s3_1.below (by (repeat' (first | (with_reducible assumption) | (with_reducible exact Below.refl _ _) | (with_reducible refine below_wov ?_ ?_ _) | (with_reducible refine below_drewN ?_ _) | (with_reducible refine Below.drew ?_) | (with_reducible refine Below.alloc ?_ ?_ _) | (with_reducible refine Below.setCell ?_ ?_ _) | (with_reducible exact Nat.le_refl _) | omega | (simp only [World.size_alloc, World.size_setCell, World.size_drew, Wov_size, World.heap_drewN]; omega))))⟩ ?_
        rintro W4 ⟨hb4, m4_0, m4_1, m4_2, s4_0, s4_1⟩
        have l4_0 := m4_0.lt
        have c4_0 := m4_0.c0
        have d4_0 := m4_0.c1
        have l4_1 := m4_1.lt
        have c4_1 := m4_1.c0
        have d4_1 := m4_1.c1
        have l4_2 := m4_2.lt
        have c4_2 := m4_2.c0
        have d4_2 := m4_2.c1
        clear hb3 l3_0 c3_0 d3_0 m3_0 l3_1 c3_1 d3_1 m3_1 s3_0 s3_1
        clear tp1
        have ra := slR_at s4_1 (x := a') (by have := HL.out; omega)
        have rb := slR_at s4_1 (x := b') (by have := HL.out; omega)
        have KP : Hid (Pure Try.prog 24 #[.agg #[.int .i64 (tm T a').1, .int .i64 (tm T a').2], .agg #[.int .i64 (tm T b').1, .int .i64 (tm T b').2], .int .i64 x] (.tuple #[.bool so, .int .i64 0])) := KPP.out a' b' so (by omega) (by omega) hk
        obtain ⟨u1, hu1⟩ : ∃ u, u = (tm T a').1 := ⟨_, rfl⟩
        obtain ⟨u2, hu2⟩ : ∃ u, u = (tm T a').2 := ⟨_, rfl⟩
        obtain ⟨u3, hu3⟩ : ∃ u, u = (tm T b').1 := ⟨_, rfl⟩
        obtain ⟨u4, hu4⟩ : ∃ u, u = (tm T b').2 := ⟨_, rfl⟩
        rw [← hu1, ← hu2] at ra
        rw [← hu3, ← hu4] at rb
        rw [← hu1, ← hu2, ← hu3, ← hu4] at KP
        obtain ⟨zl, ra0, ra1⟩ := ra
        obtain ⟨_, rb0, rb1⟩ := rb
        have i1 : (0 : Int) ≤ (a' : Int) := by omega
        have i2 : (a' : Int) < (L : Int) := by have := HL.out; omega
        have i3 : (0 : Int) ≤ (b' : Int) := by omega
        have i4 : (b' : Int) < (L : Int) := by have := HL.out; omega
        have H6 := Lib.hid h6
        have H0 := Lib.hid h0
        clear hu1 hu2 hu3 hu4 hk ha hb h6 h0 KPP SK
        refine wp_region_wov (by kernel_rfl) (by kernel_rfl) ?_
        repeat (go_big_quiet_step ((go_at_call 24; (first | exact (KP.out).at _ _ | exact (KP.out).at2 _ _ _ | exact (KP.out).at3 _ _ _ _ | exact (KP.out).at4 _ _ _ _ _ | exact (KP.out).at5 _ _ _ _ _ _ | exact (KP.out).at6 _ _ _ _ _ _ _))))
        refine wpQuiet_nil ?_
        rintro _ ⟨pq, rfl⟩
        clear ra0 ra1 rb0 rb1 KP
        go_wp2_with (fail)
        refine calls_world (fun W => Below w.heap.size w W ∧ BoxM W w.heap.size na pa Na ca fa ∧ BoxM W (w.heap.size + 1) nb pb Nb cb fb ∧ BoxM W A1 y1 p1 Y1 c1 h1 ∧ SlR W q M T) ⟨by (repeat' (first | (with_reducible assumption) | (with_reducible exact Below.refl _ _) | (with_reducible refine below_wov ?_ ?_ _) | (with_reducible refine below_drewN ?_ _) | (with_reducible refine Below.drew ?_) | (with_reducible refine Below.alloc ?_ ?_ _) | (with_reducible refine Below.setCell ?_ ?_ _) | (with_reducible exact Nat.le_refl _) | omega | (simp only [World.size_alloc, World.size_setCell, World.size_drew, Wov_size, World.heap_drewN]; omega))), m4_0.below (by (repeat' (first | (with_reducible assumption) | (with_reducible exact Below.refl _ _) | (with_reducible refine below_wov ?_ ?_ _) | (with_reducible refine below_drewN ?_ _) | (with_reducible refine Below.drew ?_) | (with_reducible refine Below.alloc ?_ ?_ _) | (with_reducible refine Below.setCell ?_ ?_ _) | (with_reducible exact Nat.le_refl _) | omega | (simp only [World.size_alloc, World.size_setCell, World.size_drew, Wov_size, World.heap_drewN]; omega)))), m4_1.below (by (repeat' (first | (with_reducible assumption) | (with_reducible exact Below.refl _ _) | (with_reducible refine below_wov ?_ ?_ _) | (with_reducible refine below_drewN ?_ _) | (with_reducible refine Below.drew ?_) | (with_reducible refine Below.alloc ?_ ?_ _) | (with_reducible refine Below.setCell ?_ ?_ _) | (with_reducible exact Nat.le_refl _) | omega | (simp only [World.size_alloc, World.size_setCell, World.size_drew, Wov_size, World.heap_drewN]; omega)))), m4_2.below (by (repeat' (first | (with_reducible assumption) | (with_reducible exact Below.refl _ _) | (with_reducible refine below_wov ?_ ?_ _) | (with_reducible refine below_drewN ?_ _) | (with_reducible refine Below.drew ?_) | (with_reducible refine Below.alloc ?_ ?_ _) | (with_reducible refine Below.setCell ?_ ?_ _) | (with_reducible exact Nat.le_refl _) | omega | (simp only [World.size_alloc, World.size_setCell, World.size_drew, Wov_size, World.heap_drewN]; omega)))), s4_0.below (by (repeat' (first | (with_reducible assumption) | (with_reducible exact Below.refl _ _) | (with_reducible refine below_wov ?_ ?_ _) | (with_reducible refine below_drewN ?_ _) | (with_reducible refine Below.drew ?_) | (with_reducible refine Below.alloc ?_ ?_ _) | (with_reducible refine Below.setCell ?_ ?_ _) | (with_reducible exact Nat.le_refl _) | omega | (simp only [World.size_alloc, World.size_setCell, World.size_drew, Wov_size, World.heap_drewN]; omega))))⟩ ?_
        rintro W5 ⟨hb5, m5_0, m5_1, m5_2, s5_0⟩
        have l5_0 := m5_0.lt
        have c5_0 := m5_0.c0
        have d5_0 := m5_0.c1
        have l5_1 := m5_1.lt
        have c5_1 := m5_1.c0
        have d5_1 := m5_1.c1
        have l5_2 := m5_2.lt
        have c5_2 := m5_2.c0
        have d5_2 := m5_2.c1
        clear hb4 l4_0 c4_0 d4_0 m4_0 l4_1 c4_1 d4_1 m4_1 l4_2 c4_2 d4_2 m4_2 s4_0 s4_1
        refine (CC.out _ _ _ m5_2.sl).mono ?_; rintro e w' ⟨rfl, q3, rfl⟩
        cases s1
        · skip
          cases one <;> cases so
          all_goals skip
          all_goals
            go_wp2_with (fail)
            refine calls_world (fun W => Below w.heap.size w W ∧ BoxM W w.heap.size na pa Na ca fa ∧ BoxM W (w.heap.size + 1) nb pb Nb cb fb ∧ SlR W q M T) ⟨by (repeat' (first | (with_reducible assumption) | (with_reducible exact Below.refl _ _) | (with_reducible refine below_wov ?_ ?_ _) | (with_reducible refine below_drewN ?_ _) | (with_reducible refine Below.drew ?_) | (with_reducible refine Below.alloc ?_ ?_ _) | (with_reducible refine Below.setCell ?_ ?_ _) | (with_reducible exact Nat.le_refl _) | omega | (simp only [World.size_alloc, World.size_setCell, World.size_drew, Wov_size, World.heap_drewN]; omega))), m5_0.below (by (repeat' (first | (with_reducible assumption) | (with_reducible exact Below.refl _ _) | (with_reducible refine below_wov ?_ ?_ _) | (with_reducible refine below_drewN ?_ _) | (with_reducible refine Below.drew ?_) | (with_reducible refine Below.alloc ?_ ?_ _) | (with_reducible refine Below.setCell ?_ ?_ _) | (with_reducible exact Nat.le_refl _) | omega | (simp only [World.size_alloc, World.size_setCell, World.size_drew, Wov_size, World.heap_drewN]; omega)))), m5_1.below (by (repeat' (first | (with_reducible assumption) | (with_reducible exact Below.refl _ _) | (with_reducible refine below_wov ?_ ?_ _) | (with_reducible refine below_drewN ?_ _) | (with_reducible refine Below.drew ?_) | (with_reducible refine Below.alloc ?_ ?_ _) | (with_reducible refine Below.setCell ?_ ?_ _) | (with_reducible exact Nat.le_refl _) | omega | (simp only [World.size_alloc, World.size_setCell, World.size_drew, Wov_size, World.heap_drewN]; omega)))), s5_0.below (by (repeat' (first | (with_reducible assumption) | (with_reducible exact Below.refl _ _) | (with_reducible refine below_wov ?_ ?_ _) | (with_reducible refine below_drewN ?_ _) | (with_reducible refine Below.drew ?_) | (with_reducible refine Below.alloc ?_ ?_ _) | (with_reducible refine Below.setCell ?_ ?_ _) | (with_reducible exact Nat.le_refl _) | omega | (simp only [World.size_alloc, World.size_setCell, World.size_drew, Wov_size, World.heap_drewN]; omega))))⟩ ?_
            rintro W6 ⟨hb6, m6_0, m6_1, s6_0⟩
            have l6_0 := m6_0.lt
            have c6_0 := m6_0.c0
            have d6_0 := m6_0.c1
            have l6_1 := m6_1.lt
            have c6_1 := m6_1.c0
            have d6_1 := m6_1.c1
            clear hb5 l5_0 c5_0 d5_0 m5_0 l5_1 c5_1 d5_1 m5_1 l5_2 c5_2 d5_2 m5_2 s5_0
            refine (KB.out _ _ m6_1.sl s6_0).mono ?_; rintro e w' ⟨rfl, r1_6, rfl⟩
            go_wp2_with (fail)
            refine calls_world (fun W => Below w.heap.size w W ∧ BoxM W w.heap.size na pa Na ca fa ∧ BoxM W (w.heap.size + 1) nb pb Nb cb fb ∧ SlR W q M T) ⟨by (repeat' (first | (with_reducible assumption) | (with_reducible exact Below.refl _ _) | (with_reducible refine below_wov ?_ ?_ _) | (with_reducible refine below_drewN ?_ _) | (with_reducible refine Below.drew ?_) | (with_reducible refine Below.alloc ?_ ?_ _) | (with_reducible refine Below.setCell ?_ ?_ _) | (with_reducible exact Nat.le_refl _) | omega | (simp only [World.size_alloc, World.size_setCell, World.size_drew, Wov_size, World.heap_drewN]; omega))), m6_0.below (by (repeat' (first | (with_reducible assumption) | (with_reducible exact Below.refl _ _) | (with_reducible refine below_wov ?_ ?_ _) | (with_reducible refine below_drewN ?_ _) | (with_reducible refine Below.drew ?_) | (with_reducible refine Below.alloc ?_ ?_ _) | (with_reducible refine Below.setCell ?_ ?_ _) | (with_reducible exact Nat.le_refl _) | omega | (simp only [World.size_alloc, World.size_setCell, World.size_drew, Wov_size, World.heap_drewN]; omega)))), m6_1.below (by (repeat' (first | (with_reducible assumption) | (with_reducible exact Below.refl _ _) | (with_reducible refine below_wov ?_ ?_ _) | (with_reducible refine below_drewN ?_ _) | (with_reducible refine Below.drew ?_) | (with_reducible refine Below.alloc ?_ ?_ _) | (with_reducible refine Below.setCell ?_ ?_ _) | (with_reducible exact Nat.le_refl _) | omega | (simp only [World.size_alloc, World.size_setCell, World.size_drew, Wov_size, World.heap_drewN]; omega)))), s6_0.below (by (repeat' (first | (with_reducible assumption) | (with_reducible exact Below.refl _ _) | (with_reducible refine below_wov ?_ ?_ _) | (with_reducible refine below_drewN ?_ _) | (with_reducible refine Below.drew ?_) | (with_reducible refine Below.alloc ?_ ?_ _) | (with_reducible refine Below.setCell ?_ ?_ _) | (with_reducible exact Nat.le_refl _) | omega | (simp only [World.size_alloc, World.size_setCell, World.size_drew, Wov_size, World.heap_drewN]; omega))))⟩ ?_
            rintro W7 ⟨hb7, m7_0, m7_1, s7_0⟩
            have l7_0 := m7_0.lt
            have c7_0 := m7_0.c0
            have d7_0 := m7_0.c1
            have l7_1 := m7_1.lt
            have c7_1 := m7_1.c0
            have d7_1 := m7_1.c1
            clear hb6 l6_0 c6_0 d6_0 m6_0 l6_1 c6_1 d6_1 m6_1 s6_0
            refine (MT.out _ _ _ m7_0.sl m7_1.sl).mono ?_; rintro e w' ⟨⟨pd, cd, rfl, ho⟩, qd, rfl⟩
            have tpd := ho.slp
            clear ho
            by_cases hg : gg = 0
            · skip
              subst hg
              rcases MK.out (by simp) (by simp) with ⟨rfl, hno⟩ | ⟨rfl, hyes⟩
              · skip
                clear tpd
                cases two
                all_goals first
                  | (exfalso; simp at hno; done)
                  | (clear hno; go_wp2; all_goals (go_ret; exact gives_bool (by simp) (by (repeat' (first | (with_reducible assumption) | (with_reducible exact Below.refl _ _) | (with_reducible refine below_wov ?_ ?_ _) | (with_reducible refine below_drewN ?_ _) | (with_reducible refine Below.drew ?_) | (with_reducible refine Below.alloc ?_ ?_ _) | (with_reducible refine Below.setCell ?_ ?_ _) | (with_reducible exact Nat.le_refl _) | omega | (simp only [World.size_alloc, World.size_setCell, World.size_drew, Wov_size, World.heap_drewN]; omega))))))
              · skip
                have KD := Lib.hid (KDD.out _ hyes)
                clear hyes
                go_wp2_with (fail)
                obtain ⟨AD, hAD⟩ : ∃ A, W7.heap.size + qd.bl.size = A := ⟨_, rfl⟩
                rw [hAD]
                refine calls_world (fun W => Below w.heap.size w W ∧ BoxM W w.heap.size na pa Na ca fa ∧ BoxM W (w.heap.size + 1) nb pb Nb cb fb ∧ BoxM W AD z1 pd Z1 cd k1 ∧ SlR W q M T) ⟨by (repeat' (first | (with_reducible assumption) | (with_reducible exact Below.refl _ _) | (with_reducible refine below_wov ?_ ?_ _) | (with_reducible refine below_drewN ?_ _) | (with_reducible refine Below.drew ?_) | (with_reducible refine Below.alloc ?_ ?_ _) | (with_reducible refine Below.setCell ?_ ?_ _) | (with_reducible exact Nat.le_refl _) | omega | (simp only [World.size_alloc, World.size_setCell, World.size_drew, Wov_size, World.heap_drewN]; omega))), m7_0.below (by (repeat' (first | (with_reducible assumption) | (with_reducible exact Below.refl _ _) | (with_reducible refine below_wov ?_ ?_ _) | (with_reducible refine below_drewN ?_ _) | (with_reducible refine Below.drew ?_) | (with_reducible refine Below.alloc ?_ ?_ _) | (with_reducible refine Below.setCell ?_ ?_ _) | (with_reducible exact Nat.le_refl _) | omega | (simp only [World.size_alloc, World.size_setCell, World.size_drew, Wov_size, World.heap_drewN]; omega)))), m7_1.below (by (repeat' (first | (with_reducible assumption) | (with_reducible exact Below.refl _ _) | (with_reducible refine below_wov ?_ ?_ _) | (with_reducible refine below_drewN ?_ _) | (with_reducible refine Below.drew ?_) | (with_reducible refine Below.alloc ?_ ?_ _) | (with_reducible refine Below.setCell ?_ ?_ _) | (with_reducible exact Nat.le_refl _) | omega | (simp only [World.size_alloc, World.size_setCell, World.size_drew, Wov_size, World.heap_drewN]; omega)))), BoxM.new (tpd) (by rw [← hAD]; (try simp only [Wov_size])), s7_0.below (by (repeat' (first | (with_reducible assumption) | (with_reducible exact Below.refl _ _) | (with_reducible refine below_wov ?_ ?_ _) | (with_reducible refine below_drewN ?_ _) | (with_reducible refine Below.drew ?_) | (with_reducible refine Below.alloc ?_ ?_ _) | (with_reducible refine Below.setCell ?_ ?_ _) | (with_reducible exact Nat.le_refl _) | omega | (simp only [World.size_alloc, World.size_setCell, World.size_drew, Wov_size, World.heap_drewN]; omega))))⟩ ?_
                rintro W8 ⟨hb8, m8_0, m8_1, m8_2, s8_0⟩
                have l8_0 := m8_0.lt
                have c8_0 := m8_0.c0
                have d8_0 := m8_0.c1
                have l8_1 := m8_1.lt
                have c8_1 := m8_1.c0
                have d8_1 := m8_1.c1
                have l8_2 := m8_2.lt
                have c8_2 := m8_2.c0
                have d8_2 := m8_2.c1
                clear hb7 l7_0 c7_0 d7_0 m7_0 l7_1 c7_1 d7_1 m7_1 s7_0
                clear tpd
                refine (CD.out _ _ _ m8_2.sl).mono ?_; rintro e w' ⟨rfl, qe, rfl⟩
                cases s3
                · skip
                  go_wp2
                  all_goals
                    go_ret
                    exact gives_bool (by simp) (by (repeat' (first | (with_reducible assumption) | (with_reducible exact Below.refl _ _) | (with_reducible refine below_wov ?_ ?_ _) | (with_reducible refine below_drewN ?_ _) | (with_reducible refine Below.drew ?_) | (with_reducible refine Below.alloc ?_ ?_ _) | (with_reducible refine Below.setCell ?_ ?_ _) | (with_reducible exact Nat.le_refl _) | omega | (simp only [World.size_alloc, World.size_setCell, World.size_drew, Wov_size, World.heap_drewN]; omega))))
                · skip
                  simp only [rcode, if_true]
                  go_wp2_with (fail)
                  refine calls_world (fun W => Below w.heap.size w W ∧ BoxM W w.heap.size na pa Na ca fa ∧ BoxM W (w.heap.size + 1) nb pb Nb cb fb ∧ BoxM W AD z1 pd Z1 cd k1 ∧ SlR W q M T) ⟨by (repeat' (first | (with_reducible assumption) | (with_reducible exact Below.refl _ _) | (with_reducible refine below_wov ?_ ?_ _) | (with_reducible refine below_drewN ?_ _) | (with_reducible refine Below.drew ?_) | (with_reducible refine Below.alloc ?_ ?_ _) | (with_reducible refine Below.setCell ?_ ?_ _) | (with_reducible exact Nat.le_refl _) | omega | (simp only [World.size_alloc, World.size_setCell, World.size_drew, Wov_size, World.heap_drewN]; omega))), m8_0.below (by (repeat' (first | (with_reducible assumption) | (with_reducible exact Below.refl _ _) | (with_reducible refine below_wov ?_ ?_ _) | (with_reducible refine below_drewN ?_ _) | (with_reducible refine Below.drew ?_) | (with_reducible refine Below.alloc ?_ ?_ _) | (with_reducible refine Below.setCell ?_ ?_ _) | (with_reducible exact Nat.le_refl _) | omega | (simp only [World.size_alloc, World.size_setCell, World.size_drew, Wov_size, World.heap_drewN]; omega)))), m8_1.below (by (repeat' (first | (with_reducible assumption) | (with_reducible exact Below.refl _ _) | (with_reducible refine below_wov ?_ ?_ _) | (with_reducible refine below_drewN ?_ _) | (with_reducible refine Below.drew ?_) | (with_reducible refine Below.alloc ?_ ?_ _) | (with_reducible refine Below.setCell ?_ ?_ _) | (with_reducible exact Nat.le_refl _) | omega | (simp only [World.size_alloc, World.size_setCell, World.size_drew, Wov_size, World.heap_drewN]; omega)))), m8_2.below (by (repeat' (first | (with_reducible assumption) | (with_reducible exact Below.refl _ _) | (with_reducible refine below_wov ?_ ?_ _) | (with_reducible refine below_drewN ?_ _) | (with_reducible refine Below.drew ?_) | (with_reducible refine Below.alloc ?_ ?_ _) | (with_reducible refine Below.setCell ?_ ?_ _) | (with_reducible exact Nat.le_refl _) | omega | (simp only [World.size_alloc, World.size_setCell, World.size_drew, Wov_size, World.heap_drewN]; omega)))), s8_0.below (by (repeat' (first | (with_reducible assumption) | (with_reducible exact Below.refl _ _) | (with_reducible refine below_wov ?_ ?_ _) | (with_reducible refine below_drewN ?_ _) | (with_reducible refine Below.drew ?_) | (with_reducible refine Below.alloc ?_ ?_ _) | (with_reducible refine Below.setCell ?_ ?_ _) | (with_reducible exact Nat.le_refl _) | omega | (simp only [World.size_alloc, World.size_setCell, World.size_drew, Wov_size, World.heap_drewN]; omega))))⟩ ?_
                  rintro W9 ⟨hb9, m9_0, m9_1, m9_2, s9_0⟩
                  have l9_0 := m9_0.lt
                  have c9_0 := m9_0.c0
                  have d9_0 := m9_0.c1
                  have l9_1 := m9_1.lt
                  have c9_1 := m9_1.c0
                  have d9_1 := m9_1.c1
                  have l9_2 := m9_2.lt
                  have c9_2 := m9_2.c0
                  have d9_2 := m9_2.c1
                  clear hb8 l8_0 c8_0 d8_0 m8_0 l8_1 c8_1 d8_1 m8_1 l8_2 c8_2 d8_2 m8_2 s8_0
                  refine (KD.out (by simp) _ _ _ m9_2.sl s9_0).mono ?_; rintro e w' ⟨rfl, qf, rfl⟩
                  cases two
                  all_goals
                    go_wp2
                    all_goals
                      go_ret
                      exact gives_bool (by simp) (by (repeat' (first | (with_reducible assumption) | (with_reducible exact Below.refl _ _) | (with_reducible refine below_wov ?_ ?_ _) | (with_reducible refine below_drewN ?_ _) | (with_reducible refine Below.drew ?_) | (with_reducible refine Below.alloc ?_ ?_ _) | (with_reducible refine Below.setCell ?_ ?_ _) | (with_reducible exact Nat.le_refl _) | omega | (simp only [World.size_alloc, World.size_setCell, World.size_drew, Wov_size, World.heap_drewN]; omega))))
            · skip
              have bg : (gg != 0) = true := by rw [bne_iff_ne]; exact hg
              clear tpd
              go_wp2
              all_goals
                go_ret
                exact gives_bool (by simp) (by (repeat' (first | (with_reducible assumption) | (with_reducible exact Below.refl _ _) | (with_reducible refine below_wov ?_ ?_ _) | (with_reducible refine below_drewN ?_ _) | (with_reducible refine Below.drew ?_) | (with_reducible refine Below.alloc ?_ ?_ _) | (with_reducible refine Below.setCell ?_ ?_ _) | (with_reducible exact Nat.le_refl _) | omega | (simp only [World.size_alloc, World.size_setCell, World.size_drew, Wov_size, World.heap_drewN]; omega))))
        · skip
          simp only [rcode, if_true]
          go_wp2_with (fail)
          refine calls_world (fun W => Below w.heap.size w W ∧ BoxM W w.heap.size na pa Na ca fa ∧ BoxM W (w.heap.size + 1) nb pb Nb cb fb ∧ BoxM W A1 y1 p1 Y1 c1 h1 ∧ SlR W q M T) ⟨by (repeat' (first | (with_reducible assumption) | (with_reducible exact Below.refl _ _) | (with_reducible refine below_wov ?_ ?_ _) | (with_reducible refine below_drewN ?_ _) | (with_reducible refine Below.drew ?_) | (with_reducible refine Below.alloc ?_ ?_ _) | (with_reducible refine Below.setCell ?_ ?_ _) | (with_reducible exact Nat.le_refl _) | omega | (simp only [World.size_alloc, World.size_setCell, World.size_drew, Wov_size, World.heap_drewN]; omega))), m5_0.below (by (repeat' (first | (with_reducible assumption) | (with_reducible exact Below.refl _ _) | (with_reducible refine below_wov ?_ ?_ _) | (with_reducible refine below_drewN ?_ _) | (with_reducible refine Below.drew ?_) | (with_reducible refine Below.alloc ?_ ?_ _) | (with_reducible refine Below.setCell ?_ ?_ _) | (with_reducible exact Nat.le_refl _) | omega | (simp only [World.size_alloc, World.size_setCell, World.size_drew, Wov_size, World.heap_drewN]; omega)))), m5_1.below (by (repeat' (first | (with_reducible assumption) | (with_reducible exact Below.refl _ _) | (with_reducible refine below_wov ?_ ?_ _) | (with_reducible refine below_drewN ?_ _) | (with_reducible refine Below.drew ?_) | (with_reducible refine Below.alloc ?_ ?_ _) | (with_reducible refine Below.setCell ?_ ?_ _) | (with_reducible exact Nat.le_refl _) | omega | (simp only [World.size_alloc, World.size_setCell, World.size_drew, Wov_size, World.heap_drewN]; omega)))), m5_2.below (by (repeat' (first | (with_reducible assumption) | (with_reducible exact Below.refl _ _) | (with_reducible refine below_wov ?_ ?_ _) | (with_reducible refine below_drewN ?_ _) | (with_reducible refine Below.drew ?_) | (with_reducible refine Below.alloc ?_ ?_ _) | (with_reducible refine Below.setCell ?_ ?_ _) | (with_reducible exact Nat.le_refl _) | omega | (simp only [World.size_alloc, World.size_setCell, World.size_drew, Wov_size, World.heap_drewN]; omega)))), s5_0.below (by (repeat' (first | (with_reducible assumption) | (with_reducible exact Below.refl _ _) | (with_reducible refine below_wov ?_ ?_ _) | (with_reducible refine below_drewN ?_ _) | (with_reducible refine Below.drew ?_) | (with_reducible refine Below.alloc ?_ ?_ _) | (with_reducible refine Below.setCell ?_ ?_ _) | (with_reducible exact Nat.le_refl _) | omega | (simp only [World.size_alloc, World.size_setCell, World.size_drew, Wov_size, World.heap_drewN]; omega))))⟩ ?_
          rintro W6 ⟨hb6, m6_0, m6_1, m6_2, s6_0⟩
          have l6_0 := m6_0.lt
          have c6_0 := m6_0.c0
          have d6_0 := m6_0.c1
          have l6_1 := m6_1.lt
          have c6_1 := m6_1.c0
          have d6_1 := m6_1.c1
          have l6_2 := m6_2.lt
          have c6_2 := m6_2.c0
          have d6_2 := m6_2.c1
          clear hb5 l5_0 c5_0 d5_0 m5_0 l5_1 c5_1 d5_1 m5_1 l5_2 c5_2 d5_2 m5_2 s5_0
          refine ((KCC.out _ (H0.out (by simp) (by simp))).out _ _ _ m6_2.sl s6_0).mono ?_; rintro e w' ⟨rfl, q4, rfl⟩
          cases one <;> cases so
          all_goals
            go_wp2_with (fail)
            refine calls_world (fun W => Below w.heap.size w W ∧ BoxM W w.heap.size na pa Na ca fa ∧ BoxM W (w.heap.size + 1) nb pb Nb cb fb ∧ SlR W q M T) ⟨by (repeat' (first | (with_reducible assumption) | (with_reducible exact Below.refl _ _) | (with_reducible refine below_wov ?_ ?_ _) | (with_reducible refine below_drewN ?_ _) | (with_reducible refine Below.drew ?_) | (with_reducible refine Below.alloc ?_ ?_ _) | (with_reducible refine Below.setCell ?_ ?_ _) | (with_reducible exact Nat.le_refl _) | omega | (simp only [World.size_alloc, World.size_setCell, World.size_drew, Wov_size, World.heap_drewN]; omega))), m6_0.below (by (repeat' (first | (with_reducible assumption) | (with_reducible exact Below.refl _ _) | (with_reducible refine below_wov ?_ ?_ _) | (with_reducible refine below_drewN ?_ _) | (with_reducible refine Below.drew ?_) | (with_reducible refine Below.alloc ?_ ?_ _) | (with_reducible refine Below.setCell ?_ ?_ _) | (with_reducible exact Nat.le_refl _) | omega | (simp only [World.size_alloc, World.size_setCell, World.size_drew, Wov_size, World.heap_drewN]; omega)))), m6_1.below (by (repeat' (first | (with_reducible assumption) | (with_reducible exact Below.refl _ _) | (with_reducible refine below_wov ?_ ?_ _) | (with_reducible refine below_drewN ?_ _) | (with_reducible refine Below.drew ?_) | (with_reducible refine Below.alloc ?_ ?_ _) | (with_reducible refine Below.setCell ?_ ?_ _) | (with_reducible exact Nat.le_refl _) | omega | (simp only [World.size_alloc, World.size_setCell, World.size_drew, Wov_size, World.heap_drewN]; omega)))), s6_0.below (by (repeat' (first | (with_reducible assumption) | (with_reducible exact Below.refl _ _) | (with_reducible refine below_wov ?_ ?_ _) | (with_reducible refine below_drewN ?_ _) | (with_reducible refine Below.drew ?_) | (with_reducible refine Below.alloc ?_ ?_ _) | (with_reducible refine Below.setCell ?_ ?_ _) | (with_reducible exact Nat.le_refl _) | omega | (simp only [World.size_alloc, World.size_setCell, World.size_drew, Wov_size, World.heap_drewN]; omega))))⟩ ?_
            rintro W7 ⟨hb7, m7_0, m7_1, s7_0⟩
            have l7_0 := m7_0.lt
            have c7_0 := m7_0.c0
            have d7_0 := m7_0.c1
            have l7_1 := m7_1.lt
            have c7_1 := m7_1.c0
            have d7_1 := m7_1.c1
            clear hb6 l6_0 c6_0 d6_0 m6_0 l6_1 c6_1 d6_1 m6_1 l6_2 c6_2 d6_2 m6_2 s6_0
            refine (KB.out _ _ m7_1.sl s7_0).mono ?_; rintro e w' ⟨rfl, r1_7, rfl⟩
            go_wp2_with (fail)
            refine calls_world (fun W => Below w.heap.size w W ∧ BoxM W w.heap.size na pa Na ca fa ∧ BoxM W (w.heap.size + 1) nb pb Nb cb fb ∧ SlR W q M T) ⟨by (repeat' (first | (with_reducible assumption) | (with_reducible exact Below.refl _ _) | (with_reducible refine below_wov ?_ ?_ _) | (with_reducible refine below_drewN ?_ _) | (with_reducible refine Below.drew ?_) | (with_reducible refine Below.alloc ?_ ?_ _) | (with_reducible refine Below.setCell ?_ ?_ _) | (with_reducible exact Nat.le_refl _) | omega | (simp only [World.size_alloc, World.size_setCell, World.size_drew, Wov_size, World.heap_drewN]; omega))), m7_0.below (by (repeat' (first | (with_reducible assumption) | (with_reducible exact Below.refl _ _) | (with_reducible refine below_wov ?_ ?_ _) | (with_reducible refine below_drewN ?_ _) | (with_reducible refine Below.drew ?_) | (with_reducible refine Below.alloc ?_ ?_ _) | (with_reducible refine Below.setCell ?_ ?_ _) | (with_reducible exact Nat.le_refl _) | omega | (simp only [World.size_alloc, World.size_setCell, World.size_drew, Wov_size, World.heap_drewN]; omega)))), m7_1.below (by (repeat' (first | (with_reducible assumption) | (with_reducible exact Below.refl _ _) | (with_reducible refine below_wov ?_ ?_ _) | (with_reducible refine below_drewN ?_ _) | (with_reducible refine Below.drew ?_) | (with_reducible refine Below.alloc ?_ ?_ _) | (with_reducible refine Below.setCell ?_ ?_ _) | (with_reducible exact Nat.le_refl _) | omega | (simp only [World.size_alloc, World.size_setCell, World.size_drew, Wov_size, World.heap_drewN]; omega)))), s7_0.below (by (repeat' (first | (with_reducible assumption) | (with_reducible exact Below.refl _ _) | (with_reducible refine below_wov ?_ ?_ _) | (with_reducible refine below_drewN ?_ _) | (with_reducible refine Below.drew ?_) | (with_reducible refine Below.alloc ?_ ?_ _) | (with_reducible refine Below.setCell ?_ ?_ _) | (with_reducible exact Nat.le_refl _) | omega | (simp only [World.size_alloc, World.size_setCell, World.size_drew, Wov_size, World.heap_drewN]; omega))))⟩ ?_
            rintro W8 ⟨hb8, m8_0, m8_1, s8_0⟩
            have l8_0 := m8_0.lt
            have c8_0 := m8_0.c0
            have d8_0 := m8_0.c1
            have l8_1 := m8_1.lt
            have c8_1 := m8_1.c0
            have d8_1 := m8_1.c1
            clear hb7 l7_0 c7_0 d7_0 m7_0 l7_1 c7_1 d7_1 m7_1 s7_0
            refine (MT.out _ _ _ m8_0.sl m8_1.sl).mono ?_; rintro e w' ⟨⟨pd, cd, rfl, ho⟩, qd, rfl⟩
            have tpd := ho.slp
            clear ho
            by_cases hg : gg = 0
            · skip
              subst hg
              rcases MK.out (by simp) (by simp) with ⟨rfl, hno⟩ | ⟨rfl, hyes⟩
              · skip
                clear tpd
                cases two
                all_goals first
                  | (exfalso; simp at hno; done)
                  | (clear hno; go_wp2; all_goals (go_ret; exact gives_bool (by simp) (by (repeat' (first | (with_reducible assumption) | (with_reducible exact Below.refl _ _) | (with_reducible refine below_wov ?_ ?_ _) | (with_reducible refine below_drewN ?_ _) | (with_reducible refine Below.drew ?_) | (with_reducible refine Below.alloc ?_ ?_ _) | (with_reducible refine Below.setCell ?_ ?_ _) | (with_reducible exact Nat.le_refl _) | omega | (simp only [World.size_alloc, World.size_setCell, World.size_drew, Wov_size, World.heap_drewN]; omega))))))
              · skip
                have KD := Lib.hid (KDD.out _ hyes)
                clear hyes
                go_wp2_with (fail)
                obtain ⟨AD, hAD⟩ : ∃ A, W8.heap.size + qd.bl.size = A := ⟨_, rfl⟩
                rw [hAD]
                refine calls_world (fun W => Below w.heap.size w W ∧ BoxM W w.heap.size na pa Na ca fa ∧ BoxM W (w.heap.size + 1) nb pb Nb cb fb ∧ BoxM W AD z1 pd Z1 cd k1 ∧ SlR W q M T) ⟨by (repeat' (first | (with_reducible assumption) | (with_reducible exact Below.refl _ _) | (with_reducible refine below_wov ?_ ?_ _) | (with_reducible refine below_drewN ?_ _) | (with_reducible refine Below.drew ?_) | (with_reducible refine Below.alloc ?_ ?_ _) | (with_reducible refine Below.setCell ?_ ?_ _) | (with_reducible exact Nat.le_refl _) | omega | (simp only [World.size_alloc, World.size_setCell, World.size_drew, Wov_size, World.heap_drewN]; omega))), m8_0.below (by (repeat' (first | (with_reducible assumption) | (with_reducible exact Below.refl _ _) | (with_reducible refine below_wov ?_ ?_ _) | (with_reducible refine below_drewN ?_ _) | (with_reducible refine Below.drew ?_) | (with_reducible refine Below.alloc ?_ ?_ _) | (with_reducible refine Below.setCell ?_ ?_ _) | (with_reducible exact Nat.le_refl _) | omega | (simp only [World.size_alloc, World.size_setCell, World.size_drew, Wov_size, World.heap_drewN]; omega)))), m8_1.below (by (repeat' (first | (with_reducible assumption) | (with_reducible exact Below.refl _ _) | (with_reducible refine below_wov ?_ ?_ _) | (with_reducible refine below_drewN ?_ _) | (with_reducible refine Below.drew ?_) | (with_reducible refine Below.alloc ?_ ?_ _) | (with_reducible refine Below.setCell ?_ ?_ _) | (with_reducible exact Nat.le_refl _) | omega | (simp only [World.size_alloc, World.size_setCell, World.size_drew, Wov_size, World.heap_drewN]; omega)))), BoxM.new (tpd) (by rw [← hAD]; (try simp only [Wov_size])), s8_0.below (by (repeat' (first | (with_reducible assumption) | (with_reducible exact Below.refl _ _) | (with_reducible refine below_wov ?_ ?_ _) | (with_reducible refine below_drewN ?_ _) | (with_reducible refine Below.drew ?_) | (with_reducible refine Below.alloc ?_ ?_ _) | (with_reducible refine Below.setCell ?_ ?_ _) | (with_reducible exact Nat.le_refl _) | omega | (simp only [World.size_alloc, World.size_setCell, World.size_drew, Wov_size, World.heap_drewN]; omega))))⟩ ?_
                rintro W9 ⟨hb9, m9_0, m9_1, m9_2, s9_0⟩
                have l9_0 := m9_0.lt
                have c9_0 := m9_0.c0
                have d9_0 := m9_0.c1
                have l9_1 := m9_1.lt
                have c9_1 := m9_1.c0
                have d9_1 := m9_1.c1
                have l9_2 := m9_2.lt
                have c9_2 := m9_2.c0
                have d9_2 := m9_2.c1
                clear hb8 l8_0 c8_0 d8_0 m8_0 l8_1 c8_1 d8_1 m8_1 s8_0
                clear tpd
                refine (CD.out _ _ _ m9_2.sl).mono ?_; rintro e w' ⟨rfl, qe, rfl⟩
                cases s3
                · skip
                  go_wp2
                  all_goals
                    go_ret
                    exact gives_bool (by simp) (by (repeat' (first | (with_reducible assumption) | (with_reducible exact Below.refl _ _) | (with_reducible refine below_wov ?_ ?_ _) | (with_reducible refine below_drewN ?_ _) | (with_reducible refine Below.drew ?_) | (with_reducible refine Below.alloc ?_ ?_ _) | (with_reducible refine Below.setCell ?_ ?_ _) | (with_reducible exact Nat.le_refl _) | omega | (simp only [World.size_alloc, World.size_setCell, World.size_drew, Wov_size, World.heap_drewN]; omega))))
                · skip
                  simp only [rcode, if_true]
                  go_wp2_with (fail)
                  refine calls_world (fun W => Below w.heap.size w W ∧ BoxM W w.heap.size na pa Na ca fa ∧ BoxM W (w.heap.size + 1) nb pb Nb cb fb ∧ BoxM W AD z1 pd Z1 cd k1 ∧ SlR W q M T) ⟨by (repeat' (first | (with_reducible assumption) | (with_reducible exact Below.refl _ _) | (with_reducible refine below_wov ?_ ?_ _) | (with_reducible refine below_drewN ?_ _) | (with_reducible refine Below.drew ?_) | (with_reducible refine Below.alloc ?_ ?_ _) | (with_reducible refine Below.setCell ?_ ?_ _) | (with_reducible exact Nat.le_refl _) | omega | (simp only [World.size_alloc, World.size_setCell, World.size_drew, Wov_size, World.heap_drewN]; omega))), m9_0.below (by (repeat' (first | (with_reducible assumption) | (with_reducible exact Below.refl _ _) | (with_reducible refine below_wov ?_ ?_ _) | (with_reducible refine below_drewN ?_ _) | (with_reducible refine Below.drew ?_) | (with_reducible refine Below.alloc ?_ ?_ _) | (with_reducible refine Below.setCell ?_ ?_ _) | (with_reducible exact Nat.le_refl _) | omega | (simp only [World.size_alloc, World.size_setCell, World.size_drew, Wov_size, World.heap_drewN]; omega)))), m9_1.below (by (repeat' (first | (with_reducible assumption) | (with_reducible exact Below.refl _ _) | (with_reducible refine below_wov ?_ ?_ _) | (with_reducible refine below_drewN ?_ _) | (with_reducible refine Below.drew ?_) | (with_reducible refine Below.alloc ?_ ?_ _) | (with_reducible refine Below.setCell ?_ ?_ _) | (with_reducible exact Nat.le_refl _) | omega | (simp only [World.size_alloc, World.size_setCell, World.size_drew, Wov_size, World.heap_drewN]; omega)))), m9_2.below (by (repeat' (first | (with_reducible assumption) | (with_reducible exact Below.refl _ _) | (with_reducible refine below_wov ?_ ?_ _) | (with_reducible refine below_drewN ?_ _) | (with_reducible refine Below.drew ?_) | (with_reducible refine Below.alloc ?_ ?_ _) | (with_reducible refine Below.setCell ?_ ?_ _) | (with_reducible exact Nat.le_refl _) | omega | (simp only [World.size_alloc, World.size_setCell, World.size_drew, Wov_size, World.heap_drewN]; omega)))), s9_0.below (by (repeat' (first | (with_reducible assumption) | (with_reducible exact Below.refl _ _) | (with_reducible refine below_wov ?_ ?_ _) | (with_reducible refine below_drewN ?_ _) | (with_reducible refine Below.drew ?_) | (with_reducible refine Below.alloc ?_ ?_ _) | (with_reducible refine Below.setCell ?_ ?_ _) | (with_reducible exact Nat.le_refl _) | omega | (simp only [World.size_alloc, World.size_setCell, World.size_drew, Wov_size, World.heap_drewN]; omega))))⟩ ?_
                  rintro W10 ⟨hb10, m10_0, m10_1, m10_2, s10_0⟩
                  have l10_0 := m10_0.lt
                  have c10_0 := m10_0.c0
                  have d10_0 := m10_0.c1
                  have l10_1 := m10_1.lt
                  have c10_1 := m10_1.c0
                  have d10_1 := m10_1.c1
                  have l10_2 := m10_2.lt
                  have c10_2 := m10_2.c0
                  have d10_2 := m10_2.c1
                  clear hb9 l9_0 c9_0 d9_0 m9_0 l9_1 c9_1 d9_1 m9_1 l9_2 c9_2 d9_2 m9_2 s9_0
                  refine (KD.out (by simp) _ _ _ m10_2.sl s10_0).mono ?_; rintro e w' ⟨rfl, qf, rfl⟩
                  cases two
                  all_goals
                    go_wp2
                    all_goals
                      go_ret
                      exact gives_bool (by simp) (by (repeat' (first | (with_reducible assumption) | (with_reducible exact Below.refl _ _) | (with_reducible refine below_wov ?_ ?_ _) | (with_reducible refine below_drewN ?_ _) | (with_reducible refine Below.drew ?_) | (with_reducible refine Below.alloc ?_ ?_ _) | (with_reducible refine Below.setCell ?_ ?_ _) | (with_reducible exact Nat.le_refl _) | omega | (simp only [World.size_alloc, World.size_setCell, World.size_drew, Wov_size, World.heap_drewN]; omega))))
            · skip
              have bg : (gg != 0) = true := by rw [bne_iff_ne]; exact hg
              clear tpd
              go_wp2
              all_goals
                go_ret
                exact gives_bool (by simp) (by (repeat' (first | (with_reducible assumption) | (with_reducible exact Below.refl _ _) | (with_reducible refine below_wov ?_ ?_ _) | (with_reducible refine below_drewN ?_ _) | (with_reducible refine Below.drew ?_) | (with_reducible refine Below.alloc ?_ ?_ _) | (with_reducible refine Below.setCell ?_ ?_ _) | (with_reducible exact Nat.le_refl _) | omega | (simp only [World.size_alloc, World.size_setCell, World.size_drew, Wov_size, World.heap_drewN]; omega))))
      · skip
        obtain ⟨a', b', so, rfl, rfl, ha, hb, hk, h6, h0⟩ := SK.out (by simp) (by simp)
        go_wp2_with (fail)
        obtain ⟨A1, hA1⟩ : ∃ A, W3.heap.size + q2.bl.size = A := ⟨_, rfl⟩
        rw [hA1]
        refine wp_world (fun W => Below w.heap.size w W ∧ BoxM W w.heap.size na pa Na ca fa ∧ BoxM W (w.heap.size + 1) nb pb Nb cb fb ∧ BoxM W A1 y1 p1 Y1 c1 h1 ∧ SlR W q M T ∧ SlR W (some ⟨Z, 0, none⟩) L (tm T)) ⟨by (repeat' (first | (with_reducible assumption) | (with_reducible exact Below.refl _ _) | (with_reducible refine below_wov ?_ ?_ _) | (with_reducible refine below_drewN ?_ _) | (with_reducible refine Below.drew ?_) | (with_reducible refine Below.alloc ?_ ?_ _) | (with_reducible refine Below.setCell ?_ ?_ _) | (with_reducible exact Nat.le_refl _) | omega | (simp only [World.size_alloc, World.size_setCell, World.size_drew, Wov_size, World.heap_drewN]; omega))), m3_0.below (by (repeat' (first | (with_reducible assumption) | (with_reducible exact Below.refl _ _) | (with_reducible refine below_wov ?_ ?_ _) | (with_reducible refine below_drewN ?_ _) | (with_reducible refine Below.drew ?_) | (with_reducible refine Below.alloc ?_ ?_ _) | (with_reducible refine Below.setCell ?_ ?_ _) | (with_reducible exact Nat.le_refl _) | omega | (simp only [World.size_alloc, World.size_setCell, World.size_drew, Wov_size, World.heap_drewN]; omega)))), m3_1.below (by (repeat' (first | (with_reducible assumption) | (with_reducible exact Below.refl _ _) | (with_reducible refine below_wov ?_ ?_ _) | (with_reducible refine below_drewN ?_ _) | (with_reducible refine Below.drew ?_) | (with_reducible refine Below.alloc ?_ ?_ _) | (with_reducible refine Below.setCell ?_ ?_ _) | (with_reducible exact Nat.le_refl _) | omega | (simp only [World.size_alloc, World.size_setCell, World.size_drew, Wov_size, World.heap_drewN]; omega)))), BoxM.new (tp1) (by rw [← hA1]; (try simp only [Wov_size])), s3_0.below (by (repeat' (first | (with_reducible assumption) | (with_reducible exact Below.refl _ _) | (with_reducible refine below_wov ?_ ?_ _) | (with_reducible refine below_drewN ?_ _) | (with_reducible refine Below.drew ?_) | (with_reducible refine Below.alloc ?_ ?_ _) | (with_reducible refine Below.setCell ?_ ?_ _) | (with_reducible exact Nat.le_refl _) | omega | (simp only [World.size_alloc, World.size_setCell, World.size_drew, Wov_size, World.heap_drewN]; omega)))), s3_1.below (by (repeat' (first | (with_reducible assumption) | (with_reducible exact Below.refl _ _) | (with_reducible refine below_wov ?_ ?_ _) | (with_reducible refine below_drewN ?_ _) | (with_reducible refine Below.drew ?_) | (with_reducible refine Below.alloc ?_ ?_ _) | (with_reducible refine Below.setCell ?_ ?_ _) | (with_reducible exact Nat.le_refl _) | omega | (simp only [World.size_alloc, World.size_setCell, World.size_drew, Wov_size, World.heap_drewN]; omega))))⟩ ?_
        rintro W4 ⟨hb4, m4_0, m4_1, m4_2, s4_0, s4_1⟩
        have l4_0 := m4_0.lt
        have c4_0 := m4_0.c0
        have d4_0 := m4_0.c1
        have l4_1 := m4_1.lt
        have c4_1 := m4_1.c0
        have d4_1 := m4_1.c1
        have l4_2 := m4_2.lt
        have c4_2 := m4_2.c0
        have d4_2 := m4_2.c1
        clear hb3 l3_0 c3_0 d3_0 m3_0 l3_1 c3_1 d3_1 m3_1 s3_0 s3_1
        clear tp1
        have ra := slR_at s4_1 (x := a') (by have := HL.out; omega)
        have rb := slR_at s4_1 (x := b') (by have := HL.out; omega)
        have KP : Hid (Pure Try.prog 24 #[.agg #[.int .i64 (tm T a').1, .int .i64 (tm T a').2], .agg #[.int .i64 (tm T b').1, .int .i64 (tm T b').2], .int .i64 x] (.tuple #[.bool so, .int .i64 0])) := KPP.out a' b' so (by omega) (by omega) hk
        obtain ⟨u1, hu1⟩ : ∃ u, u = (tm T a').1 := ⟨_, rfl⟩
        obtain ⟨u2, hu2⟩ : ∃ u, u = (tm T a').2 := ⟨_, rfl⟩
        obtain ⟨u3, hu3⟩ : ∃ u, u = (tm T b').1 := ⟨_, rfl⟩
        obtain ⟨u4, hu4⟩ : ∃ u, u = (tm T b').2 := ⟨_, rfl⟩
        rw [← hu1, ← hu2] at ra
        rw [← hu3, ← hu4] at rb
        rw [← hu1, ← hu2, ← hu3, ← hu4] at KP
        obtain ⟨zl, ra0, ra1⟩ := ra
        obtain ⟨_, rb0, rb1⟩ := rb
        have i1 : (0 : Int) ≤ (a' : Int) := by omega
        have i2 : (a' : Int) < (L : Int) := by have := HL.out; omega
        have i3 : (0 : Int) ≤ (b' : Int) := by omega
        have i4 : (b' : Int) < (L : Int) := by have := HL.out; omega
        have H6 := Lib.hid h6
        have H0 := Lib.hid h0
        clear hu1 hu2 hu3 hu4 hk ha hb h6 h0 KPP SK
        refine wp_region_wov (by kernel_rfl) (by kernel_rfl) ?_
        repeat (go_big_quiet_step ((go_at_call 24; (first | exact (KP.out).at _ _ | exact (KP.out).at2 _ _ _ | exact (KP.out).at3 _ _ _ _ | exact (KP.out).at4 _ _ _ _ _ | exact (KP.out).at5 _ _ _ _ _ _ | exact (KP.out).at6 _ _ _ _ _ _ _))))
        refine wpQuiet_nil ?_
        rintro _ ⟨pq, rfl⟩
        clear ra0 ra1 rb0 rb1 KP
        have hno2 := H6.out (by simp)
        clear H6 H0
        cases one <;> cases so
        all_goals first
          | (exfalso; simp at hno2; done)
          | skip
        all_goals clear hno2
        all_goals
          go_wp2_with (fail)
          refine calls_world (fun W => Below w.heap.size w W ∧ BoxM W w.heap.size na pa Na ca fa ∧ BoxM W (w.heap.size + 1) nb pb Nb cb fb ∧ SlR W q M T) ⟨by (repeat' (first | (with_reducible assumption) | (with_reducible exact Below.refl _ _) | (with_reducible refine below_wov ?_ ?_ _) | (with_reducible refine below_drewN ?_ _) | (with_reducible refine Below.drew ?_) | (with_reducible refine Below.alloc ?_ ?_ _) | (with_reducible refine Below.setCell ?_ ?_ _) | (with_reducible exact Nat.le_refl _) | omega | (simp only [World.size_alloc, World.size_setCell, World.size_drew, Wov_size, World.heap_drewN]; omega))), m4_0.below (by (repeat' (first | (with_reducible assumption) | (with_reducible exact Below.refl _ _) | (with_reducible refine below_wov ?_ ?_ _) | (with_reducible refine below_drewN ?_ _) | (with_reducible refine Below.drew ?_) | (with_reducible refine Below.alloc ?_ ?_ _) | (with_reducible refine Below.setCell ?_ ?_ _) | (with_reducible exact Nat.le_refl _) | omega | (simp only [World.size_alloc, World.size_setCell, World.size_drew, Wov_size, World.heap_drewN]; omega)))), m4_1.below (by (repeat' (first | (with_reducible assumption) | (with_reducible exact Below.refl _ _) | (with_reducible refine below_wov ?_ ?_ _) | (with_reducible refine below_drewN ?_ _) | (with_reducible refine Below.drew ?_) | (with_reducible refine Below.alloc ?_ ?_ _) | (with_reducible refine Below.setCell ?_ ?_ _) | (with_reducible exact Nat.le_refl _) | omega | (simp only [World.size_alloc, World.size_setCell, World.size_drew, Wov_size, World.heap_drewN]; omega)))), s4_0.below (by (repeat' (first | (with_reducible assumption) | (with_reducible exact Below.refl _ _) | (with_reducible refine below_wov ?_ ?_ _) | (with_reducible refine below_drewN ?_ _) | (with_reducible refine Below.drew ?_) | (with_reducible refine Below.alloc ?_ ?_ _) | (with_reducible refine Below.setCell ?_ ?_ _) | (with_reducible exact Nat.le_refl _) | omega | (simp only [World.size_alloc, World.size_setCell, World.size_drew, Wov_size, World.heap_drewN]; omega))))⟩ ?_
          rintro W5 ⟨hb5, m5_0, m5_1, s5_0⟩
          have l5_0 := m5_0.lt
          have c5_0 := m5_0.c0
          have d5_0 := m5_0.c1
          have l5_1 := m5_1.lt
          have c5_1 := m5_1.c0
          have d5_1 := m5_1.c1
          clear hb4 l4_0 c4_0 d4_0 m4_0 l4_1 c4_1 d4_1 m4_1 l4_2 c4_2 d4_2 m4_2 s4_0 s4_1
          refine (KB.out _ _ m5_1.sl s5_0).mono ?_; rintro e w' ⟨rfl, r1_5, rfl⟩
          go_wp2_with (fail)
          refine calls_world (fun W => Below w.heap.size w W ∧ BoxM W w.heap.size na pa Na ca fa ∧ BoxM W (w.heap.size + 1) nb pb Nb cb fb ∧ SlR W q M T) ⟨by (repeat' (first | (with_reducible assumption) | (with_reducible exact Below.refl _ _) | (with_reducible refine below_wov ?_ ?_ _) | (with_reducible refine below_drewN ?_ _) | (with_reducible refine Below.drew ?_) | (with_reducible refine Below.alloc ?_ ?_ _) | (with_reducible refine Below.setCell ?_ ?_ _) | (with_reducible exact Nat.le_refl _) | omega | (simp only [World.size_alloc, World.size_setCell, World.size_drew, Wov_size, World.heap_drewN]; omega))), m5_0.below (by (repeat' (first | (with_reducible assumption) | (with_reducible exact Below.refl _ _) | (with_reducible refine below_wov ?_ ?_ _) | (with_reducible refine below_drewN ?_ _) | (with_reducible refine Below.drew ?_) | (with_reducible refine Below.alloc ?_ ?_ _) | (with_reducible refine Below.setCell ?_ ?_ _) | (with_reducible exact Nat.le_refl _) | omega | (simp only [World.size_alloc, World.size_setCell, World.size_drew, Wov_size, World.heap_drewN]; omega)))), m5_1.below (by (repeat' (first | (with_reducible assumption) | (with_reducible exact Below.refl _ _) | (with_reducible refine below_wov ?_ ?_ _) | (with_reducible refine below_drewN ?_ _) | (with_reducible refine Below.drew ?_) | (with_reducible refine Below.alloc ?_ ?_ _) | (with_reducible refine Below.setCell ?_ ?_ _) | (with_reducible exact Nat.le_refl _) | omega | (simp only [World.size_alloc, World.size_setCell, World.size_drew, Wov_size, World.heap_drewN]; omega)))), s5_0.below (by (repeat' (first | (with_reducible assumption) | (with_reducible exact Below.refl _ _) | (with_reducible refine below_wov ?_ ?_ _) | (with_reducible refine below_drewN ?_ _) | (with_reducible refine Below.drew ?_) | (with_reducible refine Below.alloc ?_ ?_ _) | (with_reducible refine Below.setCell ?_ ?_ _) | (with_reducible exact Nat.le_refl _) | omega | (simp only [World.size_alloc, World.size_setCell, World.size_drew, Wov_size, World.heap_drewN]; omega))))⟩ ?_
          rintro W6 ⟨hb6, m6_0, m6_1, s6_0⟩
          have l6_0 := m6_0.lt
          have c6_0 := m6_0.c0
          have d6_0 := m6_0.c1
          have l6_1 := m6_1.lt
          have c6_1 := m6_1.c0
          have d6_1 := m6_1.c1
          clear hb5 l5_0 c5_0 d5_0 m5_0 l5_1 c5_1 d5_1 m5_1 s5_0
          refine (MT.out _ _ _ m6_0.sl m6_1.sl).mono ?_; rintro e w' ⟨⟨pd, cd, rfl, ho⟩, qd, rfl⟩
          have tpd := ho.slp
          clear ho
          by_cases hg : gg = 0
          · skip
            subst hg
            rcases MK.out (by simp) (by simp) with ⟨rfl, hno⟩ | ⟨rfl, hyes⟩
            · skip
              clear tpd
              cases two
              all_goals first
                | (exfalso; simp at hno; done)
                | (clear hno; go_wp2; all_goals (go_ret; exact gives_bool (by simp) (by (repeat' (first | (with_reducible assumption) | (with_reducible exact Below.refl _ _) | (with_reducible refine below_wov ?_ ?_ _) | (with_reducible refine below_drewN ?_ _) | (with_reducible refine Below.drew ?_) | (with_reducible refine Below.alloc ?_ ?_ _) | (with_reducible refine Below.setCell ?_ ?_ _) | (with_reducible exact Nat.le_refl _) | omega | (simp only [World.size_alloc, World.size_setCell, World.size_drew, Wov_size, World.heap_drewN]; omega))))))
            · skip
              have KD := Lib.hid (KDD.out _ hyes)
              clear hyes
              go_wp2_with (fail)
              obtain ⟨AD, hAD⟩ : ∃ A, W6.heap.size + qd.bl.size = A := ⟨_, rfl⟩
              rw [hAD]
              refine calls_world (fun W => Below w.heap.size w W ∧ BoxM W w.heap.size na pa Na ca fa ∧ BoxM W (w.heap.size + 1) nb pb Nb cb fb ∧ BoxM W AD z1 pd Z1 cd k1 ∧ SlR W q M T) ⟨by (repeat' (first | (with_reducible assumption) | (with_reducible exact Below.refl _ _) | (with_reducible refine below_wov ?_ ?_ _) | (with_reducible refine below_drewN ?_ _) | (with_reducible refine Below.drew ?_) | (with_reducible refine Below.alloc ?_ ?_ _) | (with_reducible refine Below.setCell ?_ ?_ _) | (with_reducible exact Nat.le_refl _) | omega | (simp only [World.size_alloc, World.size_setCell, World.size_drew, Wov_size, World.heap_drewN]; omega))), m6_0.below (by (repeat' (first | (with_reducible assumption) | (with_reducible exact Below.refl _ _) | (with_reducible refine below_wov ?_ ?_ _) | (with_reducible refine below_drewN ?_ _) | (with_reducible refine Below.drew ?_) | (with_reducible refine Below.alloc ?_ ?_ _) | (with_reducible refine Below.setCell ?_ ?_ _) | (with_reducible exact Nat.le_refl _) | omega | (simp only [World.size_alloc, World.size_setCell, World.size_drew, Wov_size, World.heap_drewN]; omega)))), m6_1.below (by (repeat' (first | (with_reducible assumption) | (with_reducible exact Below.refl _ _) | (with_reducible refine below_wov ?_ ?_ _) | (with_reducible refine below_drewN ?_ _) | (with_reducible refine Below.drew ?_) | (with_reducible refine Below.alloc ?_ ?_ _) | (with_reducible refine Below.setCell ?_ ?_ _) | (with_reducible exact Nat.le_refl _) | omega | (simp only [World.size_alloc, World.size_setCell, World.size_drew, Wov_size, World.heap_drewN]; omega)))), BoxM.new (tpd) (by rw [← hAD]; (try simp only [Wov_size])), s6_0.below (by (repeat' (first | (with_reducible assumption) | (with_reducible exact Below.refl _ _) | (with_reducible refine below_wov ?_ ?_ _) | (with_reducible refine below_drewN ?_ _) | (with_reducible refine Below.drew ?_) | (with_reducible refine Below.alloc ?_ ?_ _) | (with_reducible refine Below.setCell ?_ ?_ _) | (with_reducible exact Nat.le_refl _) | omega | (simp only [World.size_alloc, World.size_setCell, World.size_drew, Wov_size, World.heap_drewN]; omega))))⟩ ?_
              rintro W7 ⟨hb7, m7_0, m7_1, m7_2, s7_0⟩
              have l7_0 := m7_0.lt
              have c7_0 := m7_0.c0
              have d7_0 := m7_0.c1
              have l7_1 := m7_1.lt
              have c7_1 := m7_1.c0
              have d7_1 := m7_1.c1
              have l7_2 := m7_2.lt
              have c7_2 := m7_2.c0
              have d7_2 := m7_2.c1
              clear hb6 l6_0 c6_0 d6_0 m6_0 l6_1 c6_1 d6_1 m6_1 s6_0
              clear tpd
              refine (CD.out _ _ _ m7_2.sl).mono ?_; rintro e w' ⟨rfl, qe, rfl⟩
              cases s3
              · skip
                go_wp2
                all_goals
                  go_ret
                  exact gives_bool (by simp) (by (repeat' (first | (with_reducible assumption) | (with_reducible exact Below.refl _ _) | (with_reducible refine below_wov ?_ ?_ _) | (with_reducible refine below_drewN ?_ _) | (with_reducible refine Below.drew ?_) | (with_reducible refine Below.alloc ?_ ?_ _) | (with_reducible refine Below.setCell ?_ ?_ _) | (with_reducible exact Nat.le_refl _) | omega | (simp only [World.size_alloc, World.size_setCell, World.size_drew, Wov_size, World.heap_drewN]; omega))))
              · skip
                simp only [rcode, if_true]
                go_wp2_with (fail)
                refine calls_world (fun W => Below w.heap.size w W ∧ BoxM W w.heap.size na pa Na ca fa ∧ BoxM W (w.heap.size + 1) nb pb Nb cb fb ∧ BoxM W AD z1 pd Z1 cd k1 ∧ SlR W q M T) ⟨by (repeat' (first | (with_reducible assumption) | (with_reducible exact Below.refl _ _) | (with_reducible refine below_wov ?_ ?_ _) | (with_reducible refine below_drewN ?_ _) | (with_reducible refine Below.drew ?_) | (with_reducible refine Below.alloc ?_ ?_ _) | (with_reducible refine Below.setCell ?_ ?_ _) | (with_reducible exact Nat.le_refl _) | omega | (simp only [World.size_alloc, World.size_setCell, World.size_drew, Wov_size, World.heap_drewN]; omega))), m7_0.below (by (repeat' (first | (with_reducible assumption) | (with_reducible exact Below.refl _ _) | (with_reducible refine below_wov ?_ ?_ _) | (with_reducible refine below_drewN ?_ _) | (with_reducible refine Below.drew ?_) | (with_reducible refine Below.alloc ?_ ?_ _) | (with_reducible refine Below.setCell ?_ ?_ _) | (with_reducible exact Nat.le_refl _) | omega | (simp only [World.size_alloc, World.size_setCell, World.size_drew, Wov_size, World.heap_drewN]; omega)))), m7_1.below (by (repeat' (first | (with_reducible assumption) | (with_reducible exact Below.refl _ _) | (with_reducible refine below_wov ?_ ?_ _) | (with_reducible refine below_drewN ?_ _) | (with_reducible refine Below.drew ?_) | (with_reducible refine Below.alloc ?_ ?_ _) | (with_reducible refine Below.setCell ?_ ?_ _) | (with_reducible exact Nat.le_refl _) | omega | (simp only [World.size_alloc, World.size_setCell, World.size_drew, Wov_size, World.heap_drewN]; omega)))), m7_2.below (by (repeat' (first | (with_reducible assumption) | (with_reducible exact Below.refl _ _) | (with_reducible refine below_wov ?_ ?_ _) | (with_reducible refine below_drewN ?_ _) | (with_reducible refine Below.drew ?_) | (with_reducible refine Below.alloc ?_ ?_ _) | (with_reducible refine Below.setCell ?_ ?_ _) | (with_reducible exact Nat.le_refl _) | omega | (simp only [World.size_alloc, World.size_setCell, World.size_drew, Wov_size, World.heap_drewN]; omega)))), s7_0.below (by (repeat' (first | (with_reducible assumption) | (with_reducible exact Below.refl _ _) | (with_reducible refine below_wov ?_ ?_ _) | (with_reducible refine below_drewN ?_ _) | (with_reducible refine Below.drew ?_) | (with_reducible refine Below.alloc ?_ ?_ _) | (with_reducible refine Below.setCell ?_ ?_ _) | (with_reducible exact Nat.le_refl _) | omega | (simp only [World.size_alloc, World.size_setCell, World.size_drew, Wov_size, World.heap_drewN]; omega))))⟩ ?_
                rintro W8 ⟨hb8, m8_0, m8_1, m8_2, s8_0⟩
                have l8_0 := m8_0.lt
                have c8_0 := m8_0.c0
                have d8_0 := m8_0.c1
                have l8_1 := m8_1.lt
                have c8_1 := m8_1.c0
                have d8_1 := m8_1.c1
                have l8_2 := m8_2.lt
                have c8_2 := m8_2.c0
                have d8_2 := m8_2.c1
                clear hb7 l7_0 c7_0 d7_0 m7_0 l7_1 c7_1 d7_1 m7_1 l7_2 c7_2 d7_2 m7_2 s7_0
                refine (KD.out (by simp) _ _ _ m8_2.sl s8_0).mono ?_; rintro e w' ⟨rfl, qf, rfl⟩
                cases two
                all_goals
                  go_wp2
                  all_goals
                    go_ret
                    exact gives_bool (by simp) (by (repeat' (first | (with_reducible assumption) | (with_reducible exact Below.refl _ _) | (with_reducible refine below_wov ?_ ?_ _) | (with_reducible refine below_drewN ?_ _) | (with_reducible refine Below.drew ?_) | (with_reducible refine Below.alloc ?_ ?_ _) | (with_reducible refine Below.setCell ?_ ?_ _) | (with_reducible exact Nat.le_refl _) | omega | (simp only [World.size_alloc, World.size_setCell, World.size_drew, Wov_size, World.heap_drewN]; omega))))
          · skip
            have bg : (gg != 0) = true := by rw [bne_iff_ne]; exact hg
            clear tpd
            go_wp2
            all_goals
              go_ret
              exact gives_bool (by simp) (by (repeat' (first | (with_reducible assumption) | (with_reducible exact Below.refl _ _) | (with_reducible refine below_wov ?_ ?_ _) | (with_reducible refine below_drewN ?_ _) | (with_reducible refine Below.drew ?_) | (with_reducible refine Below.alloc ?_ ?_ _) | (with_reducible refine Below.setCell ?_ ?_ _) | (with_reducible exact Nat.le_refl _) | omega | (simp only [World.size_alloc, World.size_setCell, World.size_drew, Wov_size, World.heap_drewN]; omega))))
      · skip
        have bf : (f0 == 0) = false := by rw [beq_eq_false_iff_ne]; exact hf
        have bf2 : (f0 == 6) = false := by rw [beq_eq_false_iff_ne]; exact hf2
        clear hf hf2 tp1
        go_wp2_with (fail)
        refine calls_world (fun W => Below w.heap.size w W ∧ BoxM W w.heap.size na pa Na ca fa ∧ BoxM W (w.heap.size + 1) nb pb Nb cb fb ∧ SlR W q M T) ⟨by (repeat' (first | (with_reducible assumption) | (with_reducible exact Below.refl _ _) | (with_reducible refine below_wov ?_ ?_ _) | (with_reducible refine below_drewN ?_ _) | (with_reducible refine Below.drew ?_) | (with_reducible refine Below.alloc ?_ ?_ _) | (with_reducible refine Below.setCell ?_ ?_ _) | (with_reducible exact Nat.le_refl _) | omega | (simp only [World.size_alloc, World.size_setCell, World.size_drew, Wov_size, World.heap_drewN]; omega))), m3_0.below (by (repeat' (first | (with_reducible assumption) | (with_reducible exact Below.refl _ _) | (with_reducible refine below_wov ?_ ?_ _) | (with_reducible refine below_drewN ?_ _) | (with_reducible refine Below.drew ?_) | (with_reducible refine Below.alloc ?_ ?_ _) | (with_reducible refine Below.setCell ?_ ?_ _) | (with_reducible exact Nat.le_refl _) | omega | (simp only [World.size_alloc, World.size_setCell, World.size_drew, Wov_size, World.heap_drewN]; omega)))), m3_1.below (by (repeat' (first | (with_reducible assumption) | (with_reducible exact Below.refl _ _) | (with_reducible refine below_wov ?_ ?_ _) | (with_reducible refine below_drewN ?_ _) | (with_reducible refine Below.drew ?_) | (with_reducible refine Below.alloc ?_ ?_ _) | (with_reducible refine Below.setCell ?_ ?_ _) | (with_reducible exact Nat.le_refl _) | omega | (simp only [World.size_alloc, World.size_setCell, World.size_drew, Wov_size, World.heap_drewN]; omega)))), s3_0.below (by (repeat' (first | (with_reducible assumption) | (with_reducible exact Below.refl _ _) | (with_reducible refine below_wov ?_ ?_ _) | (with_reducible refine below_drewN ?_ _) | (with_reducible refine Below.drew ?_) | (with_reducible refine Below.alloc ?_ ?_ _) | (with_reducible refine Below.setCell ?_ ?_ _) | (with_reducible exact Nat.le_refl _) | omega | (simp only [World.size_alloc, World.size_setCell, World.size_drew, Wov_size, World.heap_drewN]; omega))))⟩ ?_
        rintro W4 ⟨hb4, m4_0, m4_1, s4_0⟩
        have l4_0 := m4_0.lt
        have c4_0 := m4_0.c0
        have d4_0 := m4_0.c1
        have l4_1 := m4_1.lt
        have c4_1 := m4_1.c0
        have d4_1 := m4_1.c1
        clear hb3 l3_0 c3_0 d3_0 m3_0 l3_1 c3_1 d3_1 m3_1 s3_0 s3_1
        refine (KB.out _ _ m4_1.sl s4_0).mono ?_; rintro e w' ⟨rfl, r1_4, rfl⟩
        go_wp2_with (fail)
        refine calls_world (fun W => Below w.heap.size w W ∧ BoxM W w.heap.size na pa Na ca fa ∧ BoxM W (w.heap.size + 1) nb pb Nb cb fb ∧ SlR W q M T) ⟨by (repeat' (first | (with_reducible assumption) | (with_reducible exact Below.refl _ _) | (with_reducible refine below_wov ?_ ?_ _) | (with_reducible refine below_drewN ?_ _) | (with_reducible refine Below.drew ?_) | (with_reducible refine Below.alloc ?_ ?_ _) | (with_reducible refine Below.setCell ?_ ?_ _) | (with_reducible exact Nat.le_refl _) | omega | (simp only [World.size_alloc, World.size_setCell, World.size_drew, Wov_size, World.heap_drewN]; omega))), m4_0.below (by (repeat' (first | (with_reducible assumption) | (with_reducible exact Below.refl _ _) | (with_reducible refine below_wov ?_ ?_ _) | (with_reducible refine below_drewN ?_ _) | (with_reducible refine Below.drew ?_) | (with_reducible refine Below.alloc ?_ ?_ _) | (with_reducible refine Below.setCell ?_ ?_ _) | (with_reducible exact Nat.le_refl _) | omega | (simp only [World.size_alloc, World.size_setCell, World.size_drew, Wov_size, World.heap_drewN]; omega)))), m4_1.below (by (repeat' (first | (with_reducible assumption) | (with_reducible exact Below.refl _ _) | (with_reducible refine below_wov ?_ ?_ _) | (with_reducible refine below_drewN ?_ _) | (with_reducible refine Below.drew ?_) | (with_reducible refine Below.alloc ?_ ?_ _) | (with_reducible refine Below.setCell ?_ ?_ _) | (with_reducible exact Nat.le_refl _) | omega | (simp only [World.size_alloc, World.size_setCell, World.size_drew, Wov_size, World.heap_drewN]; omega)))), s4_0.below (by (repeat' (first | (with_reducible assumption) | (with_reducible exact Below.refl _ _) | (with_reducible refine below_wov ?_ ?_ _) | (with_reducible refine below_drewN ?_ _) | (with_reducible refine Below.drew ?_) | (with_reducible refine Below.alloc ?_ ?_ _) | (with_reducible refine Below.setCell ?_ ?_ _) | (with_reducible exact Nat.le_refl _) | omega | (simp only [World.size_alloc, World.size_setCell, World.size_drew, Wov_size, World.heap_drewN]; omega))))⟩ ?_
        rintro W5 ⟨hb5, m5_0, m5_1, s5_0⟩
        have l5_0 := m5_0.lt
        have c5_0 := m5_0.c0
        have d5_0 := m5_0.c1
        have l5_1 := m5_1.lt
        have c5_1 := m5_1.c0
        have d5_1 := m5_1.c1
        clear hb4 l4_0 c4_0 d4_0 m4_0 l4_1 c4_1 d4_1 m4_1 s4_0
        refine (MT.out _ _ _ m5_0.sl m5_1.sl).mono ?_; rintro e w' ⟨⟨pd, cd, rfl, ho⟩, qd, rfl⟩
        have tpd := ho.slp
        clear ho
        by_cases hg : gg = 0
        · skip
          subst hg
          rcases MK.out (by simp) (by simp) with ⟨rfl, hno⟩ | ⟨rfl, hyes⟩
          · skip
            clear tpd
            cases one <;> cases two
            all_goals first
              | (exfalso; simp at hno; done)
              | (clear hno; go_wp2; all_goals (go_ret; exact gives_bool (by simp) (by (repeat' (first | (with_reducible assumption) | (with_reducible exact Below.refl _ _) | (with_reducible refine below_wov ?_ ?_ _) | (with_reducible refine below_drewN ?_ _) | (with_reducible refine Below.drew ?_) | (with_reducible refine Below.alloc ?_ ?_ _) | (with_reducible refine Below.setCell ?_ ?_ _) | (with_reducible exact Nat.le_refl _) | omega | (simp only [World.size_alloc, World.size_setCell, World.size_drew, Wov_size, World.heap_drewN]; omega))))))
          · skip
            have KD := Lib.hid (KDD.out _ hyes)
            clear hyes
            go_wp2_with (fail)
            obtain ⟨AD, hAD⟩ : ∃ A, W5.heap.size + qd.bl.size = A := ⟨_, rfl⟩
            rw [hAD]
            refine calls_world (fun W => Below w.heap.size w W ∧ BoxM W w.heap.size na pa Na ca fa ∧ BoxM W (w.heap.size + 1) nb pb Nb cb fb ∧ BoxM W AD z1 pd Z1 cd k1 ∧ SlR W q M T) ⟨by (repeat' (first | (with_reducible assumption) | (with_reducible exact Below.refl _ _) | (with_reducible refine below_wov ?_ ?_ _) | (with_reducible refine below_drewN ?_ _) | (with_reducible refine Below.drew ?_) | (with_reducible refine Below.alloc ?_ ?_ _) | (with_reducible refine Below.setCell ?_ ?_ _) | (with_reducible exact Nat.le_refl _) | omega | (simp only [World.size_alloc, World.size_setCell, World.size_drew, Wov_size, World.heap_drewN]; omega))), m5_0.below (by (repeat' (first | (with_reducible assumption) | (with_reducible exact Below.refl _ _) | (with_reducible refine below_wov ?_ ?_ _) | (with_reducible refine below_drewN ?_ _) | (with_reducible refine Below.drew ?_) | (with_reducible refine Below.alloc ?_ ?_ _) | (with_reducible refine Below.setCell ?_ ?_ _) | (with_reducible exact Nat.le_refl _) | omega | (simp only [World.size_alloc, World.size_setCell, World.size_drew, Wov_size, World.heap_drewN]; omega)))), m5_1.below (by (repeat' (first | (with_reducible assumption) | (with_reducible exact Below.refl _ _) | (with_reducible refine below_wov ?_ ?_ _) | (with_reducible refine below_drewN ?_ _) | (with_reducible refine Below.drew ?_) | (with_reducible refine Below.alloc ?_ ?_ _) | (with_reducible refine Below.setCell ?_ ?_ _) | (with_reducible exact Nat.le_refl _) | omega | (simp only [World.size_alloc, World.size_setCell, World.size_drew, Wov_size, World.heap_drewN]; omega)))), BoxM.new (tpd) (by rw [← hAD]; (try simp only [Wov_size])), s5_0.below (by (repeat' (first | (with_reducible assumption) | (with_reducible exact Below.refl _ _) | (with_reducible refine below_wov ?_ ?_ _) | (with_reducible refine below_drewN ?_ _) | (with_reducible refine Below.drew ?_) | (with_reducible refine Below.alloc ?_ ?_ _) | (with_reducible refine Below.setCell ?_ ?_ _) | (with_reducible exact Nat.le_refl _) | omega | (simp only [World.size_alloc, World.size_setCell, World.size_drew, Wov_size, World.heap_drewN]; omega))))⟩ ?_
            rintro W6 ⟨hb6, m6_0, m6_1, m6_2, s6_0⟩
            have l6_0 := m6_0.lt
            have c6_0 := m6_0.c0
            have d6_0 := m6_0.c1
            have l6_1 := m6_1.lt
            have c6_1 := m6_1.c0
            have d6_1 := m6_1.c1
            have l6_2 := m6_2.lt
            have c6_2 := m6_2.c0
            have d6_2 := m6_2.c1
            clear hb5 l5_0 c5_0 d5_0 m5_0 l5_1 c5_1 d5_1 m5_1 s5_0
            clear tpd
            refine (CD.out _ _ _ m6_2.sl).mono ?_; rintro e w' ⟨rfl, qe, rfl⟩
            cases s3
            · skip
              go_wp2
              all_goals
                go_ret
                exact gives_bool (by simp) (by (repeat' (first | (with_reducible assumption) | (with_reducible exact Below.refl _ _) | (with_reducible refine below_wov ?_ ?_ _) | (with_reducible refine below_drewN ?_ _) | (with_reducible refine Below.drew ?_) | (with_reducible refine Below.alloc ?_ ?_ _) | (with_reducible refine Below.setCell ?_ ?_ _) | (with_reducible exact Nat.le_refl _) | omega | (simp only [World.size_alloc, World.size_setCell, World.size_drew, Wov_size, World.heap_drewN]; omega))))
            · skip
              simp only [rcode, if_true]
              go_wp2_with (fail)
              refine calls_world (fun W => Below w.heap.size w W ∧ BoxM W w.heap.size na pa Na ca fa ∧ BoxM W (w.heap.size + 1) nb pb Nb cb fb ∧ BoxM W AD z1 pd Z1 cd k1 ∧ SlR W q M T) ⟨by (repeat' (first | (with_reducible assumption) | (with_reducible exact Below.refl _ _) | (with_reducible refine below_wov ?_ ?_ _) | (with_reducible refine below_drewN ?_ _) | (with_reducible refine Below.drew ?_) | (with_reducible refine Below.alloc ?_ ?_ _) | (with_reducible refine Below.setCell ?_ ?_ _) | (with_reducible exact Nat.le_refl _) | omega | (simp only [World.size_alloc, World.size_setCell, World.size_drew, Wov_size, World.heap_drewN]; omega))), m6_0.below (by (repeat' (first | (with_reducible assumption) | (with_reducible exact Below.refl _ _) | (with_reducible refine below_wov ?_ ?_ _) | (with_reducible refine below_drewN ?_ _) | (with_reducible refine Below.drew ?_) | (with_reducible refine Below.alloc ?_ ?_ _) | (with_reducible refine Below.setCell ?_ ?_ _) | (with_reducible exact Nat.le_refl _) | omega | (simp only [World.size_alloc, World.size_setCell, World.size_drew, Wov_size, World.heap_drewN]; omega)))), m6_1.below (by (repeat' (first | (with_reducible assumption) | (with_reducible exact Below.refl _ _) | (with_reducible refine below_wov ?_ ?_ _) | (with_reducible refine below_drewN ?_ _) | (with_reducible refine Below.drew ?_) | (with_reducible refine Below.alloc ?_ ?_ _) | (with_reducible refine Below.setCell ?_ ?_ _) | (with_reducible exact Nat.le_refl _) | omega | (simp only [World.size_alloc, World.size_setCell, World.size_drew, Wov_size, World.heap_drewN]; omega)))), m6_2.below (by (repeat' (first | (with_reducible assumption) | (with_reducible exact Below.refl _ _) | (with_reducible refine below_wov ?_ ?_ _) | (with_reducible refine below_drewN ?_ _) | (with_reducible refine Below.drew ?_) | (with_reducible refine Below.alloc ?_ ?_ _) | (with_reducible refine Below.setCell ?_ ?_ _) | (with_reducible exact Nat.le_refl _) | omega | (simp only [World.size_alloc, World.size_setCell, World.size_drew, Wov_size, World.heap_drewN]; omega)))), s6_0.below (by (repeat' (first | (with_reducible assumption) | (with_reducible exact Below.refl _ _) | (with_reducible refine below_wov ?_ ?_ _) | (with_reducible refine below_drewN ?_ _) | (with_reducible refine Below.drew ?_) | (with_reducible refine Below.alloc ?_ ?_ _) | (with_reducible refine Below.setCell ?_ ?_ _) | (with_reducible exact Nat.le_refl _) | omega | (simp only [World.size_alloc, World.size_setCell, World.size_drew, Wov_size, World.heap_drewN]; omega))))⟩ ?_
              rintro W7 ⟨hb7, m7_0, m7_1, m7_2, s7_0⟩
              have l7_0 := m7_0.lt
              have c7_0 := m7_0.c0
              have d7_0 := m7_0.c1
              have l7_1 := m7_1.lt
              have c7_1 := m7_1.c0
              have d7_1 := m7_1.c1
              have l7_2 := m7_2.lt
              have c7_2 := m7_2.c0
              have d7_2 := m7_2.c1
              clear hb6 l6_0 c6_0 d6_0 m6_0 l6_1 c6_1 d6_1 m6_1 l6_2 c6_2 d6_2 m6_2 s6_0
              refine (KD.out (by simp) _ _ _ m7_2.sl s7_0).mono ?_; rintro e w' ⟨rfl, qf, rfl⟩
              cases one <;> cases two
              all_goals
                go_wp2
                all_goals
                  go_ret
                  exact gives_bool (by simp) (by (repeat' (first | (with_reducible assumption) | (with_reducible exact Below.refl _ _) | (with_reducible refine below_wov ?_ ?_ _) | (with_reducible refine below_drewN ?_ _) | (with_reducible refine Below.drew ?_) | (with_reducible refine Below.alloc ?_ ?_ _) | (with_reducible refine Below.setCell ?_ ?_ _) | (with_reducible exact Nat.le_refl _) | omega | (simp only [World.size_alloc, World.size_setCell, World.size_drew, Wov_size, World.heap_drewN]; omega))))
        · skip
          have bg : (gg != 0) = true := by rw [bne_iff_ne]; exact hg
          clear tpd
          go_wp2
          all_goals
            go_ret
            exact gives_bool (by simp) (by (repeat' (first | (with_reducible assumption) | (with_reducible exact Below.refl _ _) | (with_reducible refine below_wov ?_ ?_ _) | (with_reducible refine below_drewN ?_ _) | (with_reducible refine Below.drew ?_) | (with_reducible refine Below.alloc ?_ ?_ _) | (with_reducible refine Below.setCell ?_ ?_ _) | (with_reducible exact Nat.le_refl _) | omega | (simp only [World.size_alloc, World.size_setCell, World.size_drew, Wov_size, World.heap_drewN]; omega))))
    · skip
      have be : (e0 != 0) = true := by rw [bne_iff_ne]; exact he
      go_wp2
      all_goals
        go_ret
        exact gives_bool (by simp) (by (repeat' (first | (with_reducible assumption) | (with_reducible exact Below.refl _ _) | (with_reducible refine below_wov ?_ ?_ _) | (with_reducible refine below_drewN ?_ _) | (with_reducible refine Below.drew ?_) | (with_reducible refine Below.alloc ?_ ?_ _) | (with_reducible refine Below.setCell ?_ ?_ _) | (with_reducible exact Nat.le_refl _) | omega | (simp only [World.size_alloc, World.size_setCell, World.size_drew, Wov_size, World.heap_drewN]; omega))))
end Go.Proofs.Ytlcbpckinjkfeaa.tightKept
