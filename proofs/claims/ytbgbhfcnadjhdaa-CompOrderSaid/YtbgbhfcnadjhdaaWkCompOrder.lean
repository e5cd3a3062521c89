/- The law CompOrder (walk): which two of three are composed first turns nothing; the other way round both change places; a lesser zone composes to a lesser one. No condition. -/
import Derived.Test.YtbgbhfcnadjhdaaL11
import Derived.Test.YtbgbhfcnadjhdaaH9
import Derived.Test.YtbgbhfcnadjhdaaH12
import Derived.Test.YtbgbhfcnadjhdaaFrame2
namespace Go.Proofs.Ytbgbhfcnadjhdaa.compOrder
open Go.ChangeShapes Go.WideShapes Go.ChangeAt Go.RowKit
set_option linter.unusedVariables false
set_option linter.unusedSimpArgs false
attribute [local go_sem] Nat.add_assoc Nat.add_lt_add_iff_left lit_lt_add
theorem meet_okZ {a c l : Nat → Int} (h1 : meetZ a c = (l, 0)) : okZ l = true := by
  have hac : (okZ a && okZ c) = true := by
    cases h : (okZ a && okZ c)
    · rw [meetZ_bad h] at h1; simp at h1
    · rfl
  rw [Bool.and_eq_true] at hac
  obtain ⟨ha, hc⟩ := hac
  rw [meetZ_ok ha hc] at h1
  have ok := okD_less (okZ_okD ha) (okZ_okD hc)
  rcases closeM_cases ok with ⟨f, hf, K⟩ | ⟨hf, _⟩
  · rw [show closeM (3 : Nat) (3 * 3) (lessF (zF a) (zF c)) = ⟨(3 : Nat), 3 * 3, f, 0⟩ from hf, if_pos rfl] at h1
    exact (okZ_told K.closed.1 h1).1
  · rw [hf] at h1
    rw [if_neg (by simp [errM])] at h1
    simp [errM] at h1
theorem comp_fits (a b : Nat → Int) : FitsZ (compZ a b).1 := by
  have z : FitsZ (fun _ => 0) := fun i _ => by show fits64 0; decide
  cases hab : (okZ a && okZ b)
  · rw [comp_bad hab]; exact z
  simp only [Bool.and_eq_true] at hab
  rcases comp_max hab.1 hab.2 with ⟨h1, _⟩ | ⟨c, _, _, h1, _⟩
  · rw [h1]; exact z
  · rw [h1]
    cases ok : okD (3 : Nat) (3 * 3) (dropF c)
    · rw [toldZ_bad ok]; exact z
    · rw [toldZ_ok ok]; exact fun i hi => mayB_fits (okD_may ok _ (placeZ_lt i hi))

set_option maxRecDepth 100000 in
set_option maxHeartbeats 16000000 in
theorem walk0 (a : Nat → Int) (wa : FitsZ a) (b : Nat → Int) (wb : FitsZ b) (c : Nat → Int) (wc : FitsZ c) (w : World) :
    Calls Try.prog 8 #[zoneV a, zoneV b, zoneV c] w (Gives w (.bool true)) := by
  have HA := Lib.hid alive9
  obtain ⟨⟨rx, ex⟩, hx⟩ : ∃ r, r = compZ a b := ⟨_, rfl⟩
  have Cx : Hid (∀ w, Calls Try.prog 18 #[.agg #[.int .i64 (a 0), .int .i64 (a 1), .int .i64 (a 2), .int .i64 (a 3), .int .i64 (a 4), .int .i64 (a 5)], .agg #[.int .i64 (b 0), .int .i64 (b 1), .int .i64 (b 2), .int .i64 (b 3), .int .i64 (b 4), .int .i64 (b 5)]] w (Gives w (.tuple #[.agg #[.int .i64 (rx 0), .int .i64 (rx 1), .int .i64 (rx 2), .int .i64 (rx 3), .int .i64 (rx 4), .int .i64 (rx 5)], .int .i64 ex]))) := fun w => by
    have := ccomp_any a b w wa wb
    rw [← hx] at this; exact this
  obtain ⟨⟨ry, ey⟩, hy⟩ : ∃ r, r = compZ b c := ⟨_, rfl⟩
  have Cy : Hid (∀ w, Calls Try.prog 18 #[.agg #[.int .i64 (b 0), .int .i64 (b 1), .int .i64 (b 2), .int .i64 (b 3), .int .i64 (b 4), .int .i64 (b 5)], .agg #[.int .i64 (c 0), .int .i64 (c 1), .int .i64 (c 2), .int .i64 (c 3), .int .i64 (c 4), .int .i64 (c 5)]] w (Gives w (.tuple #[.agg #[.int .i64 (ry 0), .int .i64 (ry 1), .int .i64 (ry 2), .int .i64 (ry 3), .int .i64 (ry 4), .int .i64 (ry 5)], .int .i64 ey]))) := fun w => by
    have := ccomp_any b c w wb wc
    rw [← hy] at this; exact this
  obtain ⟨⟨rp, ep⟩, hp⟩ : ∃ r, r = backR a := ⟨_, rfl⟩
  have Cp : Hid (∀ w, Calls Try.prog 20 #[.agg #[.int .i64 (a 0), .int .i64 (a 1), .int .i64 (a 2), .int .i64 (a 3), .int .i64 (a 4), .int .i64 (a 5)]] w (Gives w (.tuple #[.agg #[.int .i64 (rp 0), .int .i64 (rp 1), .int .i64 (rp 2), .int .i64 (rp 3), .int .i64 (rp 4), .int .i64 (rp 5)], .int .i64 ep]))) := fun w => by
    have := cback_any a w wa
    rw [← hp] at this; exact this
  obtain ⟨⟨rq, eq⟩, hq⟩ : ∃ r, r = backR b := ⟨_, rfl⟩
  have Cq : Hid (∀ w, Calls Try.prog 20 #[.agg #[.int .i64 (b 0), .int .i64 (b 1), .int .i64 (b 2), .int .i64 (b 3), .int .i64 (b 4), .int .i64 (b 5)]] w (Gives w (.tuple #[.agg #[.int .i64 (rq 0), .int .i64 (rq 1), .int .i64 (rq 2), .int .i64 (rq 3), .int .i64 (rq 4), .int .i64 (rq 5)], .int .i64 eq]))) := fun w => by
    have := cback_any b w wb
    rw [← hq] at this; exact this
  have O1 : Hid (ex = 0 → ey = 0 → ∃ (u : Nat → Int) (eu : Int), (∀ w, Calls Try.prog 18 #[.agg #[.int .i64 (rx 0), .int .i64 (rx 1), .int .i64 (rx 2), .int .i64 (rx 3), .int .i64 (rx 4), .int .i64 (rx 5)], .agg #[.int .i64 (c 0), .int .i64 (c 1), .int .i64 (c 2), .int .i64 (c 3), .int .i64 (c 4), .int .i64 (c 5)]] w (Gives w (.tuple #[.agg #[.int .i64 (u 0), .int .i64 (u 1), .int .i64 (u 2), .int .i64 (u 3), .int .i64 (u 4), .int .i64 (u 5)], .int .i64 eu]))) ∧ (∀ w, Calls Try.prog 18 #[.agg #[.int .i64 (a 0), .int .i64 (a 1), .int .i64 (a 2), .int .i64 (a 3), .int .i64 (a 4), .int .i64 (a 5)], .agg #[.int .i64 (ry 0), .int .i64 (ry 1), .int .i64 (ry 2), .int .i64 (ry 3), .int .i64 (ry 4), .int .i64 (ry 5)]] w (Gives w (.tuple #[.agg #[.int .i64 (u 0), .int .i64 (u 1), .int .i64 (u 2), .int .i64 (u 3), .int .i64 (u 4), .int .i64 (u 5)], .int .i64 eu])))) := fun h1 h2 => by
    subst h1; subst h2
    have k := corder_law hx.symm hy.symm
    obtain ⟨_, _, okx, _⟩ := comp_ok hx.symm
    obtain ⟨_, okc, oky, _⟩ := comp_ok hy.symm
    refine ⟨(compZ rx c).1, (compZ rx c).2, fun w => ccomp_any rx c w (okZ_fits okx) wc, fun w => ?_⟩
    rw [k]
    exact ccomp_any a ry w wa (okZ_fits oky)
  by_cases hok : (okZ a && okZ b) = true
  · skip
    rw [Bool.and_eq_true] at hok
    obtain ⟨oka, okb⟩ := hok
    have hp2 : (rp, ep) = (backZ a, 0) := by rw [hp]; unfold backR; rw [oka]; rfl
    have hq2 : (rq, eq) = (backZ b, 0) := by rw [hq]; unfold backR; rw [okb]; rfl
    simp only [Prod.mk.injEq] at hp2 hq2
    obtain ⟨hp2, rfl⟩ := hp2
    obtain ⟨hq2, rfl⟩ := hq2
    have okp : okZ rp = true := by rw [hp2]; exact okZ_back oka
    have okq : okZ rq = true := by rw [hq2]; exact okZ_back okb
    obtain ⟨⟨ro, eo⟩, ho⟩ : ∃ r, r = backR rp := ⟨_, rfl⟩
    have Co : Hid (∀ w, Calls Try.prog 20 #[.agg #[.int .i64 (rp 0), .int .i64 (rp 1), .int .i64 (rp 2), .int .i64 (rp 3), .int .i64 (rp 4), .int .i64 (rp 5)]] w (Gives w (.tuple #[.agg #[.int .i64 (ro 0), .int .i64 (ro 1), .int .i64 (ro 2), .int .i64 (ro 3), .int .i64 (ro 4), .int .i64 (ro 5)], .int .i64 eo]))) := fun w => by
      have := cback_any rp w (okZ_fits okp)
      rw [← ho] at this; exact this
    have ho2 : (ro, eo) = (backZ rp, 0) := by rw [ho]; unfold backR; rw [okp]; rfl
    simp only [Prod.mk.injEq] at ho2
    obtain ⟨ho2, rfl⟩ := ho2
    have Eo : eq6 (ro 0) (ro 1) (ro 2) (ro 3) (ro 4) (ro 5) (a 0) (a 1) (a 2) (a 3) (a 4) (a 5) = true := (eq6_iff ro a).2 (fun i hi => by rw [ho2, hp2]; rcases six hi with rfl | rfl | rfl | rfl | rfl | rfl <;> rfl)
    obtain ⟨⟨rr, er⟩, hr⟩ : ∃ r, r = compZ rq rp := ⟨_, rfl⟩
    have Cr : Hid (∀ w, Calls Try.prog 18 #[.agg #[.int .i64 (rq 0), .int .i64 (rq 1), .int .i64 (rq 2), .int .i64 (rq 3), .int .i64 (rq 4), .int .i64 (rq 5)], .agg #[.int .i64 (rp 0), .int .i64 (rp 1), .int .i64 (rp 2), .int .i64 (rp 3), .int .i64 (rp 4), .int .i64 (rp 5)]] w (Gives w (.tuple #[.agg #[.int .i64 (rr 0), .int .i64 (rr 1), .int .i64 (rr 2), .int .i64 (rr 3), .int .i64 (rr 4), .int .i64 (rr 5)], .int .i64 er]))) := fun w => by
      have := ccomp_any rq rp w (okZ_fits okq) (okZ_fits okp)
      rw [← hr] at this; exact this
    have cb := cback_law oka okb
    rw [← hp2, ← hq2, ← hr, ← hx] at cb
    obtain ⟨cb1, cb2⟩ := cb
    dsimp only at cb1 cb2
    subst cb1
    obtain ⟨⟨rl, el⟩, hl⟩ : ∃ r, r = meetZ a c := ⟨_, rfl⟩
    have Cl : Hid (∀ w, Calls Try.prog 36 #[.agg #[.int .i64 (a 0), .int .i64 (a 1), .int .i64 (a 2), .int .i64 (a 3), .int .i64 (a 4), .int .i64 (a 5)], .agg #[.int .i64 (c 0), .int .i64 (c 1), .int .i64 (c 2), .int .i64 (c 3), .int .i64 (c 4), .int .i64 (c 5)]] w (Gives w (.tuple #[.agg #[.int .i64 (rl 0), .int .i64 (rl 1), .int .i64 (rl 2), .int .i64 (rl 3), .int .i64 (rl 4), .int .i64 (rl 5)], .int .i64 el]))) := fun w => by
      have := zmeet_any a c w wa wc
      rw [← hl] at this; exact this
    have HS : Hid (er = 0 → ∃ s : Nat → Int, (∀ w, Calls Try.prog 20 #[.agg #[.int .i64 (rx 0), .int .i64 (rx 1), .int .i64 (rx 2), .int .i64 (rx 3), .int .i64 (rx 4), .int .i64 (rx 5)]] w (Gives w (.tuple #[.agg #[.int .i64 (s 0), .int .i64 (s 1), .int .i64 (s 2), .int .i64 (s 3), .int .i64 (s 4), .int .i64 (s 5)], .int .i64 0]))) ∧ eq6 (s 0) (s 1) (s 2) (s 3) (s 4) (s 5) (rr 0) (rr 1) (rr 2) (rr 3) (rr 4) (rr 5) = true) := fun h1 => by
      subst h1
      obtain ⟨_, _, okx, _⟩ := comp_ok hx.symm
      refine ⟨backZ rx, fun w => ?_, (eq6_iff _ _).2 (fun i hi => (cb2 rfl i hi).symm)⟩
      have := cback_any rx w (okZ_fits okx)
      unfold backR at this
      rw [okx] at this; exact this
    have HM : Hid (el = 0 → ∃ (m : Nat → Int) (em : Int), (em = 0 ∨ em = 6 ∨ em = 8) ∧ (∀ w, Calls Try.prog 18 #[.agg #[.int .i64 (rl 0), .int .i64 (rl 1), .int .i64 (rl 2), .int .i64 (rl 3), .int .i64 (rl 4), .int .i64 (rl 5)], .agg #[.int .i64 (b 0), .int .i64 (b 1), .int .i64 (b 2), .int .i64 (b 3), .int .i64 (b 4), .int .i64 (b 5)]] w (Gives w (.tuple #[.agg #[.int .i64 (m 0), .int .i64 (m 1), .int .i64 (m 2), .int .i64 (m 3), .int .i64 (m 4), .int .i64 (m 5)], .int .i64 em]))) ∧ (em = 0 → ∃ (k : Bool) (ek : Int), (∀ w, Calls Try.prog 37 #[.agg #[.int .i64 (m 0), .int .i64 (m 1), .int .i64 (m 2), .int .i64 (m 3), .int .i64 (m 4), .int .i64 (m 5)], .agg #[.int .i64 (rx 0), .int .i64 (rx 1), .int .i64 (rx 2), .int .i64 (rx 3), .int .i64 (rx 4), .int .i64 (rx 5)]] w (Gives w (.tuple #[.bool k, .int .i64 ek]))) ∧ (er = 0 → k = true ∧ ek = 0))) := fun h1 => by
      subst h1
      have okl := meet_okZ hl.symm
      obtain ⟨⟨m, em⟩, hm⟩ : ∃ r, r = compZ rl b := ⟨_, rfl⟩
      have he := comp_e rl b
      rw [← hm] at he
      refine ⟨m, em, he, fun w => ?_, fun h2 => ?_⟩
      · have := ccomp_any rl b w (okZ_fits okl) wb
        rw [← hm] at this; exact this
      · subst h2
        have okm := (comp_ok hm.symm).2.2.1
        have fx : FitsZ rx := by have := comp_fits a b; rw [← hx] at this; exact this
        refine ⟨(inZ m rx).1, (inZ m rx).2, fun w => zin_any m rx w (okZ_fits okm) fx, fun h3 => ?_⟩
        subst h3
        have := cless_law hl.symm hm.symm hx.symm
        rw [this]; exact ⟨rfl, rfl⟩
    clear hx hy hp hq ho hr hl cb2 oka okb okp okq hp2 hq2 ho2 wa wb wc
    unfold zoneV
    go_enter Try.func8, Try.ntmps8
    go_wp2_with (fail)
    refine calls_world (fun W => Below w.heap.size w W ∧ BoxZ W w.heap.size a ∧ BoxZ W (w.heap.size + 1) b ∧ BoxZ W (w.heap.size + 2) c) ⟨by (repeat' (first | (with_reducible assumption) | (with_reducible exact Below.refl _ _) | (with_reducible refine below_wov ?_ ?_ _) | (with_reducible refine below_drewN ?_ _) | (with_reducible refine Below.drew ?_) | (with_reducible refine Below.alloc ?_ ?_ _) | (with_reducible refine Below.setCell ?_ ?_ _) | (with_reducible exact Nat.le_refl _) | omega | (simp only [World.size_alloc, World.size_setCell, World.size_drew, Wov_size, World.heap_drewN]; omega))), (BoxZ.new (W := w) (t := 24) (by simp)).below (by (repeat' (first | (with_reducible assumption) | (with_reducible exact Below.refl _ _) | (with_reducible refine below_wov ?_ ?_ _) | (with_reducible refine below_drewN ?_ _) | (with_reducible refine Below.drew ?_) | (with_reducible refine Below.alloc ?_ ?_ _) | (with_reducible refine Below.setCell ?_ ?_ _) | (with_reducible exact Nat.le_refl _) | omega | (simp only [World.size_alloc, World.size_setCell, World.size_drew, Wov_size, World.heap_drewN]; omega)))), (BoxZ.new (W := (World.alloc w (.cells #[.int .i64 (a 0), .int .i64 (a 1), .int .i64 (a 2), .int .i64 (a 3), .int .i64 (a 4), .int .i64 (a 5)] 24))) (t := 24) (by simp)).below (by (repeat' (first | (with_reducible assumption) | (with_reducible exact Below.refl _ _) | (with_reducible refine below_wov ?_ ?_ _) | (with_reducible refine below_drewN ?_ _) | (with_reducible refine Below.drew ?_) | (with_reducible refine Below.alloc ?_ ?_ _) | (with_reducible refine Below.setCell ?_ ?_ _) | (with_reducible exact Nat.le_refl _) | omega | (simp only [World.size_alloc, World.size_setCell, World.size_drew, Wov_size, World.heap_drewN]; omega)))), (BoxZ.new (W := (World.alloc (World.alloc w (.cells #[.int .i64 (a 0), .int .i64 (a 1), .int .i64 (a 2), .int .i64 (a 3), .int .i64 (a 4), .int .i64 (a 5)] 24)) (.cells #[.int .i64 (b 0), .int .i64 (b 1), .int .i64 (b 2), .int .i64 (b 3), .int .i64 (b 4), .int .i64 (b 5)] 24))) (t := 24) (by simp)).below (by (repeat' (first | (with_reducible assumption) | (with_reducible exact Below.refl _ _) | (with_reducible refine below_wov ?_ ?_ _) | (with_reducible refine below_drewN ?_ _) | (with_reducible refine Below.drew ?_) | (with_reducible refine Below.alloc ?_ ?_ _) | (with_reducible refine Below.setCell ?_ ?_ _) | (with_reducible exact Nat.le_refl _) | omega | (simp only [World.size_alloc, World.size_setCell, World.size_drew, Wov_size, World.heap_drewN]; omega))))⟩ ?_
    rintro W1 ⟨hb1, m1_0, m1_1, m1_2⟩
    have hs1 := hb1.size
    have f1_0_lt := m1_0.lt
    have f1_0_c0 := m1_0.c0
    have f1_0_c1 := m1_0.c1
    have f1_0_c2 := m1_0.c2
    have f1_0_c3 := m1_0.c3
    have f1_0_c4 := m1_0.c4
    have f1_0_c5 := m1_0.c5
    have f1_1_lt := m1_1.lt
    have f1_1_c0 := m1_1.c0
    have f1_1_c1 := m1_1.c1
    have f1_1_c2 := m1_1.c2
    have f1_1_c3 := m1_1.c3
    have f1_1_c4 := m1_1.c4
    have f1_1_c5 := m1_1.c5
    have f1_2_lt := m1_2.lt
    have f1_2_c0 := m1_2.c0
    have f1_2_c1 := m1_2.c1
    have f1_2_c2 := m1_2.c2
    have f1_2_c3 := m1_2.c3
    have f1_2_c4 := m1_2.c4
    have f1_2_c5 := m1_2.c5
    refine (HA.out _).mono ?_; rintro e w' ⟨rfl, q0, rfl⟩
    go_wp2_with (fail)
    refine calls_world (fun W => Below w.heap.size w W ∧ BoxZ W w.heap.size a ∧ BoxZ W (w.heap.size + 1) b ∧ BoxZ W (w.heap.size + 2) c) ⟨by (repeat' (first | (with_reducible assumption) | (with_reducible exact Below.refl _ _) | (with_reducible refine below_wov ?_ ?_ _) | (with_reducible refine below_drewN ?_ _) | (with_reducible refine Below.drew ?_) | (with_reducible refine Below.alloc ?_ ?_ _) | (with_reducible refine Below.setCell ?_ ?_ _) | (with_reducible exact Nat.le_refl _) | omega | (simp only [World.size_alloc, World.size_setCell, World.size_drew, Wov_size, World.heap_drewN]; omega))), m1_0.below (by (repeat' (first | (with_reducible assumption) | (with_reducible exact Below.refl _ _) | (with_reducible refine below_wov ?_ ?_ _) | (with_reducible refine below_drewN ?_ _) | (with_reducible refine Below.drew ?_) | (with_reducible refine Below.alloc ?_ ?_ _) | (with_reducible refine Below.setCell ?_ ?_ _) | (with_reducible exact Nat.le_refl _) | omega | (simp only [World.size_alloc, World.size_setCell, World.size_drew, Wov_size, World.heap_drewN]; omega)))), m1_1.below (by (repeat' (first | (with_reducible assumption) | (with_reducible exact Below.refl _ _) | (with_reducible refine below_wov ?_ ?_ _) | (with_reducible refine below_drewN ?_ _) | (with_reducible refine Below.drew ?_) | (with_reducible refine Below.alloc ?_ ?_ _) | (with_reducible refine Below.setCell ?_ ?_ _) | (with_reducible exact Nat.le_refl _) | omega | (simp only [World.size_alloc, World.size_setCell, World.size_drew, Wov_size, World.heap_drewN]; omega)))), m1_2.below (by (repeat' (first | (with_reducible assumption) | (with_reducible exact Below.refl _ _) | (with_reducible refine below_wov ?_ ?_ _) | (with_reducible refine below_drewN ?_ _) | (with_reducible refine Below.drew ?_) | (with_reducible refine Below.alloc ?_ ?_ _) | (with_reducible refine Below.setCell ?_ ?_ _) | (with_reducible exact Nat.le_refl _) | omega | (simp only [World.size_alloc, World.size_setCell, World.size_drew, Wov_size, World.heap_drewN]; omega))))⟩ ?_
    rintro W2 ⟨hb2, m2_0, m2_1, m2_2⟩
    clear hb1 f1_0_lt f1_0_c0 f1_0_c1 f1_0_c2 f1_0_c3 f1_0_c4 f1_0_c5 f1_1_lt f1_1_c0 f1_1_c1 f1_1_c2 f1_1_c3 f1_1_c4 f1_1_c5 f1_2_lt f1_2_c0 f1_2_c1 f1_2_c2 f1_2_c3 f1_2_c4 f1_2_c5 m1_0 m1_1 m1_2 hs1
    have hs2 := hb2.size
    have f2_0_lt := m2_0.lt
    have f2_0_c0 := m2_0.c0
    have f2_0_c1 := m2_0.c1
    have f2_0_c2 := m2_0.c2
    have f2_0_c3 := m2_0.c3
    have f2_0_c4 := m2_0.c4
    have f2_0_c5 := m2_0.c5
    have f2_1_lt := m2_1.lt
    have f2_1_c0 := m2_1.c0
    have f2_1_c1 := m2_1.c1
    have f2_1_c2 := m2_1.c2
    have f2_1_c3 := m2_1.c3
    have f2_1_c4 := m2_1.c4
    have f2_1_c5 := m2_1.c5
    have f2_2_lt := m2_2.lt
    have f2_2_c0 := m2_2.c0
    have f2_2_c1 := m2_2.c1
    have f2_2_c2 := m2_2.c2
    have f2_2_c3 := m2_2.c3
    have f2_2_c4 := m2_2.c4
    have f2_2_c5 := m2_2.c5
    refine (Cx.out _).mono ?_; rintro e w' ⟨rfl, qx, rfl⟩
    go_wp2_with (fail)
    obtain ⟨Ax, hAx⟩ : ∃ A, W2.heap.size + qx.bl.size = A := ⟨_, rfl⟩
    rw [hAx]
    refine calls_world (fun W => Below w.heap.size w W ∧ BoxZ W w.heap.size a ∧ BoxZ W (w.heap.size + 1) b ∧ BoxZ W (w.heap.size + 2) c ∧ BoxZ W Ax rx) ⟨by (repeat' (first | (with_reducible assumption) | (with_reducible exact Below.refl _ _) | (with_reducible refine below_wov ?_ ?_ _) | (with_reducible refine below_drewN ?_ _) | (with_reducible refine Below.drew ?_) | (with_reducible refine Below.alloc ?_ ?_ _) | (with_reducible refine Below.setCell ?_ ?_ _) | (with_reducible exact Nat.le_refl _) | omega | (simp only [World.size_alloc, World.size_setCell, World.size_drew, Wov_size, World.heap_drewN]; omega))), m2_0.below (by (repeat' (first | (with_reducible assumption) | (with_reducible exact Below.refl _ _) | (with_reducible refine below_wov ?_ ?_ _) | (with_reducible refine below_drewN ?_ _) | (with_reducible refine Below.drew ?_) | (with_reducible refine Below.alloc ?_ ?_ _) | (with_reducible refine Below.setCell ?_ ?_ _) | (with_reducible exact Nat.le_refl _) | omega | (simp only [World.size_alloc, World.size_setCell, World.size_drew, Wov_size, World.heap_drewN]; omega)))), m2_1.below (by (repeat' (first | (with_reducible assumption) | (with_reducible exact Below.refl _ _) | (with_reducible refine below_wov ?_ ?_ _) | (with_reducible refine below_drewN ?_ _) | (with_reducible refine Below.drew ?_) | (with_reducible refine Below.alloc ?_ ?_ _) | (with_reducible refine Below.setCell ?_ ?_ _) | (with_reducible exact Nat.le_refl _) | omega | (simp only [World.size_alloc, World.size_setCell, World.size_drew, Wov_size, World.heap_drewN]; omega)))), m2_2.below (by (repeat' (first | (with_reducible assumption) | (with_reducible exact Below.refl _ _) | (with_reducible refine below_wov ?_ ?_ _) | (with_reducible refine below_drewN ?_ _) | (with_reducible refine Below.drew ?_) | (with_reducible refine Below.alloc ?_ ?_ _) | (with_reducible refine Below.setCell ?_ ?_ _) | (with_reducible exact Nat.le_refl _) | omega | (simp only [World.size_alloc, World.size_setCell, World.size_drew, Wov_size, World.heap_drewN]; omega)))), BoxZ.new (by rw [← hAx]; (try simp only [Wov_size]))⟩ ?_
    rintro W3 ⟨hb3, m3_0, m3_1, m3_2, m3_3⟩
    clear hb2 f2_0_lt f2_0_c0 f2_0_c1 f2_0_c2 f2_0_c3 f2_0_c4 f2_0_c5 f2_1_lt f2_1_c0 f2_1_c1 f2_1_c2 f2_1_c3 f2_1_c4 f2_1_c5 f2_2_lt f2_2_c0 f2_2_c1 f2_2_c2 f2_2_c3 f2_2_c4 f2_2_c5 m2_0 m2_1 m2_2 hs2
    have hs3 := hb3.size
    have f3_0_lt := m3_0.lt
    have f3_0_c0 := m3_0.c0
    have f3_0_c1 := m3_0.c1
    have f3_0_c2 := m3_0.c2
    have f3_0_c3 := m3_0.c3
    have f3_0_c4 := m3_0.c4
    have f3_0_c5 := m3_0.c5
    have f3_1_lt := m3_1.lt
    have f3_1_c0 := m3_1.c0
    have f3_1_c1 := m3_1.c1
    have f3_1_c2 := m3_1.c2
    have f3_1_c3 := m3_1.c3
    have f3_1_c4 := m3_1.c4
    have f3_1_c5 := m3_1.c5
    have f3_2_lt := m3_2.lt
    have f3_2_c0 := m3_2.c0
    have f3_2_c1 := m3_2.c1
    have f3_2_c2 := m3_2.c2
    have f3_2_c3 := m3_2.c3
    have f3_2_c4 := m3_2.c4
    have f3_2_c5 := m3_2.c5
    have f3_3_lt := m3_3.lt
    have f3_3_c0 := m3_3.c0
    have f3_3_c1 := m3_3.c1
    have f3_3_c2 := m3_3.c2
    have f3_3_c3 := m3_3.c3
    have f3_3_c4 := m3_3.c4
    have f3_3_c5 := m3_3.c5
    clear hAx Cx
    refine (Cy.out _).mono ?_; rintro e w' ⟨rfl, qy, rfl⟩
    clear Cy HA
    by_cases he0 : er = 0
    · skip
      subst he0
      by_cases hf0 : ey = 0
      · skip
        subst hf0
        obtain ⟨u, eu, U1, U2⟩ := O1.out (by simp) (by simp)
        have U1 := Lib.hid U1
        have U2 := Lib.hid U2
        have Eu : eq6 (u 0) (u 1) (u 2) (u 3) (u 4) (u 5) (u 0) (u 1) (u 2) (u 3) (u 4) (u 5) = true := (eq6_iff u u).2 (fun _ _ => rfl)
        clear O1
        go_wp2_with (fail)
        obtain ⟨Ay, hAy⟩ : ∃ A, W3.heap.size + qy.bl.size = A := ⟨_, rfl⟩
        rw [hAy]
        refine calls_world (fun W => Below w.heap.size w W ∧ BoxZ W w.heap.size a ∧ BoxZ W (w.heap.size + 1) b ∧ BoxZ W (w.heap.size + 2) c ∧ BoxZ W Ax rx ∧ BoxZ W Ay ry) ⟨by (repeat' (first | (with_reducible assumption) | (with_reducible exact Below.refl _ _) | (with_reducible refine below_wov ?_ ?_ _) | (with_reducible refine below_drewN ?_ _) | (with_reducible refine Below.drew ?_) | (with_reducible refine Below.alloc ?_ ?_ _) | (with_reducible refine Below.setCell ?_ ?_ _) | (with_reducible exact Nat.le_refl _) | omega | (simp only [World.size_alloc, World.size_setCell, World.size_drew, Wov_size, World.heap_drewN]; omega))), m3_0.below (by (repeat' (first | (with_reducible assumption) | (with_reducible exact Below.refl _ _) | (with_reducible refine below_wov ?_ ?_ _) | (with_reducible refine below_drewN ?_ _) | (with_reducible refine Below.drew ?_) | (with_reducible refine Below.alloc ?_ ?_ _) | (with_reducible refine Below.setCell ?_ ?_ _) | (with_reducible exact Nat.le_refl _) | omega | (simp only [World.size_alloc, World.size_setCell, World.size_drew, Wov_size, World.heap_drewN]; omega)))), m3_1.below (by (repeat' (first | (with_reducible assumption) | (with_reducible exact Below.refl _ _) | (with_reducible refine below_wov ?_ ?_ _) | (with_reducible refine below_drewN ?_ _) | (with_reducible refine Below.drew ?_) | (with_reducible refine Below.alloc ?_ ?_ _) | (with_reducible refine Below.setCell ?_ ?_ _) | (with_reducible exact Nat.le_refl _) | omega | (simp only [World.size_alloc, World.size_setCell, World.size_drew, Wov_size, World.heap_drewN]; omega)))), m3_2.below (by (repeat' (first | (with_reducible assumption) | (with_reducible exact Below.refl _ _) | (with_reducible refine below_wov ?_ ?_ _) | (with_reducible refine below_drewN ?_ _) | (with_reducible refine Below.drew ?_) | (with_reducible refine Below.alloc ?_ ?_ _) | (with_reducible refine Below.setCell ?_ ?_ _) | (with_reducible exact Nat.le_refl _) | omega | (simp only [World.size_alloc, World.size_setCell, World.size_drew, Wov_size, World.heap_drewN]; omega)))), m3_3.below (by (repeat' (first | (with_reducible assumption) | (with_reducible exact Below.refl _ _) | (with_reducible refine below_wov ?_ ?_ _) | (with_reducible refine below_drewN ?_ _) | (with_reducible refine Below.drew ?_) | (with_reducible refine Below.alloc ?_ ?_ _) | (with_reducible refine Below.setCell ?_ ?_ _) | (with_reducible exact Nat.le_refl _) | omega | (simp only [World.size_alloc, World.size_setCell, World.size_drew, Wov_size, World.heap_drewN]; omega)))), BoxZ.new (by rw [← hAy]; (try simp only [Wov_size]))⟩ ?_
        rintro W4 ⟨hb4, m4_0, m4_1, m4_2, m4_3, m4_4⟩
        clear hb3 f3_0_lt f3_0_c0 f3_0_c1 f3_0_c2 f3_0_c3 f3_0_c4 f3_0_c5 f3_1_lt f3_1_c0 f3_1_c1 f3_1_c2 f3_1_c3 f3_1_c4 f3_1_c5 f3_2_lt f3_2_c0 f3_2_c1 f3_2_c2 f3_2_c3 f3_2_c4 f3_2_c5 f3_3_lt f3_3_c0 f3_3_c1 f3_3_c2 f3_3_c3 f3_3_c4 f3_3_c5 m3_0 m3_1 m3_2 m3_3 hs3
        have hs4 := hb4.size
        have f4_0_lt := m4_0.lt
        have f4_0_c0 := m4_0.c0
        have f4_0_c1 := m4_0.c1
        have f4_0_c2 := m4_0.c2
        have f4_0_c3 := m4_0.c3
        have f4_0_c4 := m4_0.c4
        have f4_0_c5 := m4_0.c5
        have f4_1_lt := m4_1.lt
        have f4_1_c0 := m4_1.c0
        have f4_1_c1 := m4_1.c1
        have f4_1_c2 := m4_1.c2
        have f4_1_c3 := m4_1.c3
        have f4_1_c4 := m4_1.c4
        have f4_1_c5 := m4_1.c5
        have f4_2_lt := m4_2.lt
        have f4_2_c0 := m4_2.c0
        have f4_2_c1 := m4_2.c1
        have f4_2_c2 := m4_2.c2
        have f4_2_c3 := m4_2.c3
        have f4_2_c4 := m4_2.c4
        have f4_2_c5 := m4_2.c5
        have f4_3_lt := m4_3.lt
        have f4_3_c0 := m4_3.c0
        have f4_3_c1 := m4_3.c1
        have f4_3_c2 := m4_3.c2
        have f4_3_c3 := m4_3.c3
        have f4_3_c4 := m4_3.c4
        have f4_3_c5 := m4_3.c5
        have f4_4_lt := m4_4.lt
        have f4_4_c0 := m4_4.c0
        have f4_4_c1 := m4_4.c1
        have f4_4_c2 := m4_4.c2
        have f4_4_c3 := m4_4.c3
        have f4_4_c4 := m4_4.c4
        have f4_4_c5 := m4_4.c5
        clear hAy
        refine (U1.out _).mono ?_; rintro e w' ⟨rfl, qu, rfl⟩
        go_wp2_with (fail)
        obtain ⟨Au, hAu⟩ : ∃ A, W4.heap.size + qu.bl.size = A := ⟨_, rfl⟩
        rw [hAu]
        refine calls_world (fun W => Below w.heap.size w W ∧ BoxZ W w.heap.size a ∧ BoxZ W (w.heap.size + 1) b ∧ BoxZ W (w.heap.size + 2) c ∧ BoxZ W Ax rx ∧ BoxZ W Ay ry ∧ BoxZ W Au u) ⟨by (repeat' (first | (with_reducible assumption) | (with_reducible exact Below.refl _ _) | (with_reducible refine below_wov ?_ ?_ _) | (with_reducible refine below_drewN ?_ _) | (with_reducible refine Below.drew ?_) | (with_reducible refine Below.alloc ?_ ?_ _) | (with_reducible refine Below.setCell ?_ ?_ _) | (with_reducible exact Nat.le_refl _) | omega | (simp only [World.size_alloc, World.size_setCell, World.size_drew, Wov_size, World.heap_drewN]; omega))), m4_0.below (by (repeat' (first | (with_reducible assumption) | (with_reducible exact Below.refl _ _) | (with_reducible refine below_wov ?_ ?_ _) | (with_reducible refine below_drewN ?_ _) | (with_reducible refine Below.drew ?_) | (with_reducible refine Below.alloc ?_ ?_ _) | (with_reducible refine Below.setCell ?_ ?_ _) | (with_reducible exact Nat.le_refl _) | omega | (simp only [World.size_alloc, World.size_setCell, World.size_drew, Wov_size, World.heap_drewN]; omega)))), m4_1.below (by (repeat' (first | (with_reducible assumption) | (with_reducible exact Below.refl _ _) | (with_reducible refine below_wov ?_ ?_ _) | (with_reducible refine below_drewN ?_ _) | (with_reducible refine Below.drew ?_) | (with_reducible refine Below.alloc ?_ ?_ _) | (with_reducible refine Below.setCell ?_ ?_ _) | (with_reducible exact Nat.le_refl _) | omega | (simp only [World.size_alloc, World.size_setCell, World.size_drew, Wov_size, World.heap_drewN]; omega)))), m4_2.below (by (repeat' (first | (with_reducible assumption) | (with_reducible exact Below.refl _ _) | (with_reducible refine below_wov ?_ ?_ _) | (with_reducible refine below_drewN ?_ _) | (with_reducible refine Below.drew ?_) | (with_reducible refine Below.alloc ?_ ?_ _) | (with_reducible refine Below.setCell ?_ ?_ _) | (with_reducible exact Nat.le_refl _) | omega | (simp only [World.size_alloc, World.size_setCell, World.size_drew, Wov_size, World.heap_drewN]; omega)))), m4_3.below (by (repeat' (first | (with_reducible assumption) | (with_reducible exact Below.refl _ _) | (with_reducible refine below_wov ?_ ?_ _) | (with_reducible refine below_drewN ?_ _) | (with_reducible refine Below.drew ?_) | (with_reducible refine Below.alloc ?_ ?_ _) | (with_reducible refine Below.setCell ?_ ?_ _) | (with_reducible exact Nat.le_refl _) | omega | (simp only [World.size_alloc, World.size_setCell, World.size_drew, Wov_size, World.heap_drewN]; omega)))), m4_4.below (by (repeat' (first | (with_reducible assumption) | (with_reducible exact Below.refl _ _) | (with_reducible refine below_wov ?_ ?_ _) | (with_reducible refine below_drewN ?_ _) | (with_reducible refine Below.drew ?_) | (with_reducible refine Below.alloc ?_ ?_ _) | (with_reducible refine Below.setCell ?_ ?_ _) | (with_reducible exact Nat.le_refl _) | omega | (simp only [World.size_alloc, World.size_setCell, World.size_drew, Wov_size, World.heap_drewN]; omega)))), BoxZ.new (by rw [← hAu]; (try simp only [Wov_size]))⟩ ?_
        rintro W5 ⟨hb5, m5_0, m5_1, m5_2, m5_3, m5_4, m5_5⟩
        clear hb4 f4_0_lt f4_0_c0 f4_0_c1 f4_0_c2 f4_0_c3 f4_0_c4 f4_0_c5 f4_1_lt f4_1_c0 f4_1_c1 f4_1_c2 f4_1_c3 f4_1_c4 f4_1_c5 f4_2_lt f4_2_c0 f4_2_c1 f4_2_c2 f4_2_c3 f4_2_c4 f4_2_c5 f4_3_lt f4_3_c0 f4_3_c1 f4_3_c2 f4_3_c3 f4_3_c4 f4_3_c5 f4_4_lt f4_4_c0 f4_4_c1 f4_4_c2 f4_4_c3 f4_4_c4 f4_4_c5 m4_0 m4_1 m4_2 m4_3 m4_4 hs4
        have hs5 := hb5.size
        have f5_0_lt := m5_0.lt
        have f5_0_c0 := m5_0.c0
        have f5_0_c1 := m5_0.c1
        have f5_0_c2 := m5_0.c2
        have f5_0_c3 := m5_0.c3
        have f5_0_c4 := m5_0.c4
        have f5_0_c5 := m5_0.c5
        have f5_1_lt := m5_1.lt
        have f5_1_c0 := m5_1.c0
        have f5_1_c1 := m5_1.c1
        have f5_1_c2 := m5_1.c2
        have f5_1_c3 := m5_1.c3
        have f5_1_c4 := m5_1.c4
        have f5_1_c5 := m5_1.c5
        have f5_2_lt := m5_2.lt
        have f5_2_c0 := m5_2.c0
        have f5_2_c1 := m5_2.c1
        have f5_2_c2 := m5_2.c2
        have f5_2_c3 := m5_2.c3
        have f5_2_c4 := m5_2.c4
        have f5_2_c5 := m5_2.c5
        have f5_3_lt := m5_3.lt
        have f5_3_c0 := m5_3.c0
        have f5_3_c1 := m5_3.c1
        have f5_3_c2 := m5_3.c2
        have f5_3_c3 := m5_3.c3
        have f5_3_c4 := m5_3.c4
        have f5_3_c5 := m5_3.c5
        have f5_4_lt := m5_4.lt
        have f5_4_c0 := m5_4.c0
        have f5_4_c1 := m5_4.c1
        have f5_4_c2 := m5_4.c2
        have f5_4_c3 := m5_4.c3
        have f5_4_c4 := m5_4.c4
        have f5_4_c5 := m5_4.c5
        have f5_5_lt := m5_5.lt
        have f5_5_c0 := m5_5.c0
        have f5_5_c1 := m5_5.c1
        have f5_5_c2 := m5_5.c2
        have f5_5_c3 := m5_5.c3
        have f5_5_c4 := m5_5.c4
        have f5_5_c5 := m5_5.c5
        clear hAu
        refine (U2.out _).mono ?_; rintro e w' ⟨rfl, qv, rfl⟩
        go_wp2_with (fail)
        obtain ⟨Av, hAv⟩ : ∃ A, W5.heap.size + qv.bl.size = A := ⟨_, rfl⟩
        rw [hAv]
        refine calls_world (fun W => Below w.heap.size w W ∧ BoxZ W w.heap.size a ∧ BoxZ W (w.heap.size + 1) b ∧ BoxZ W (w.heap.size + 2) c ∧ BoxZ W Ax rx ∧ BoxZ W Au u ∧ BoxZ W Av u) ⟨by (repeat' (first | (with_reducible assumption) | (with_reducible exact Below.refl _ _) | (with_reducible refine below_wov ?_ ?_ _) | (with_reducible refine below_drewN ?_ _) | (with_reducible refine Below.drew ?_) | (with_reducible refine Below.alloc ?_ ?_ _) | (with_reducible refine Below.setCell ?_ ?_ _) | (with_reducible exact Nat.le_refl _) | omega | (simp only [World.size_alloc, World.size_setCell, World.size_drew, Wov_size, World.heap_drewN]; omega))), m5_0.below (by (repeat' (first | (with_reducible assumption) | (with_reducible exact Below.refl _ _) | (with_reducible refine below_wov ?_ ?_ _) | (with_reducible refine below_drewN ?_ _) | (with_reducible refine Below.drew ?_) | (with_reducible refine Below.alloc ?_ ?_ _) | (with_reducible refine Below.setCell ?_ ?_ _) | (with_reducible exact Nat.le_refl _) | omega | (simp only [World.size_alloc, World.size_setCell, World.size_drew, Wov_size, World.heap_drewN]; omega)))), m5_1.below (by (repeat' (first | (with_reducible assumption) | (with_reducible exact Below.refl _ _) | (with_reducible refine below_wov ?_ ?_ _) | (with_reducible refine below_drewN ?_ _) | (with_reducible refine Below.drew ?_) | (with_reducible refine Below.alloc ?_ ?_ _) | (with_reducible refine Below.setCell ?_ ?_ _) | (with_reducible exact Nat.le_refl _) | omega | (simp only [World.size_alloc, World.size_setCell, World.size_drew, Wov_size, World.heap_drewN]; omega)))), m5_2.below (by (repeat' (first | (with_reducible assumption) | (with_reducible exact Below.refl _ _) | (with_reducible refine below_wov ?_ ?_ _) | (with_reducible refine below_drewN ?_ _) | (with_reducible refine Below.drew ?_) | (with_reducible refine Below.alloc ?_ ?_ _) | (with_reducible refine Below.setCell ?_ ?_ _) | (with_reducible exact Nat.le_refl _) | omega | (simp only [World.size_alloc, World.size_setCell, World.size_drew, Wov_size, World.heap_drewN]; omega)))), m5_3.below (by (repeat' (first | (with_reducible assumption) | (with_reducible exact Below.refl _ _) | (with_reducible refine below_wov ?_ ?_ _) | (with_reducible refine below_drewN ?_ _) | (with_reducible refine Below.drew ?_) | (with_reducible refine Below.alloc ?_ ?_ _) | (with_reducible refine Below.setCell ?_ ?_ _) | (with_reducible exact Nat.le_refl _) | omega | (simp only [World.size_alloc, World.size_setCell, World.size_drew, Wov_size, World.heap_drewN]; omega)))), m5_5.below (by (repeat' (first | (with_reducible assumption) | (with_reducible exact Below.refl _ _) | (with_reducible refine below_wov ?_ ?_ _) | (with_reducible refine below_drewN ?_ _) | (with_reducible refine Below.drew ?_) | (with_reducible refine Below.alloc ?_ ?_ _) | (with_reducible refine Below.setCell ?_ ?_ _) | (with_reducible exact Nat.le_refl _) | omega | (simp only [World.size_alloc, World.size_setCell, World.size_drew, Wov_size, World.heap_drewN]; omega)))), BoxZ.new (by rw [← hAv]; (try simp only [Wov_size]))⟩ ?_
        rintro W6 ⟨hb6, m6_0, m6_1, m6_2, m6_3, m6_4, m6_5⟩
        clear hb5 f5_0_lt f5_0_c0 f5_0_c1 f5_0_c2 f5_0_c3 f5_0_c4 f5_0_c5 f5_1_lt f5_1_c0 f5_1_c1 f5_1_c2 f5_1_c3 f5_1_c4 f5_1_c5 f5_2_lt f5_2_c0 f5_2_c1 f5_2_c2 f5_2_c3 f5_2_c4 f5_2_c5 f5_3_lt f5_3_c0 f5_3_c1 f5_3_c2 f5_3_c3 f5_3_c4 f5_3_c5 f5_4_lt f5_4_c0 f5_4_c1 f5_4_c2 f5_4_c3 f5_4_c4 f5_4_c5 f5_5_lt f5_5_c0 f5_5_c1 f5_5_c2 f5_5_c3 f5_5_c4 f5_5_c5 m5_0 m5_1 m5_2 m5_3 m5_4 m5_5 hs5
        have hs6 := hb6.size
        have f6_0_lt := m6_0.lt
        have f6_0_c0 := m6_0.c0
        have f6_0_c1 := m6_0.c1
        have f6_0_c2 := m6_0.c2
        have f6_0_c3 := m6_0.c3
        have f6_0_c4 := m6_0.c4
        have f6_0_c5 := m6_0.c5
        have f6_1_lt := m6_1.lt
        have f6_1_c0 := m6_1.c0
        have f6_1_c1 := m6_1.c1
        have f6_1_c2 := m6_1.c2
        have f6_1_c3 := m6_1.c3
        have f6_1_c4 := m6_1.c4
        have f6_1_c5 := m6_1.c5
        have f6_2_lt := m6_2.lt
        have f6_2_c0 := m6_2.c0
        have f6_2_c1 := m6_2.c1
        have f6_2_c2 := m6_2.c2
        have f6_2_c3 := m6_2.c3
        have f6_2_c4 := m6_2.c4
        have f6_2_c5 := m6_2.c5
        have f6_3_lt := m6_3.lt
        have f6_3_c0 := m6_3.c0
        have f6_3_c1 := m6_3.c1
        have f6_3_c2 := m6_3.c2
        have f6_3_c3 := m6_3.c3
        have f6_3_c4 := m6_3.c4
        have f6_3_c5 := m6_3.c5
        have f6_4_lt := m6_4.lt
        have f6_4_c0 := m6_4.c0
        have f6_4_c1 := m6_4.c1
        have f6_4_c2 := m6_4.c2
        have f6_4_c3 := m6_4.c3
        have f6_4_c4 := m6_4.c4
        have f6_4_c5 := m6_4.c5
        have f6_5_lt := m6_5.lt
        have f6_5_c0 := m6_5.c0
        have f6_5_c1 := m6_5.c1
        have f6_5_c2 := m6_5.c2
        have f6_5_c3 := m6_5.c3
        have f6_5_c4 := m6_5.c4
        have f6_5_c5 := m6_5.c5
        clear hAv
        clear U1 U2
        refine (Cp.out _).mono ?_; rintro e w' ⟨rfl, qp, rfl⟩
        go_wp2_with (fail)
        obtain ⟨Ap, hAp⟩ : ∃ A, W6.heap.size + qp.bl.size = A := ⟨_, rfl⟩
        rw [hAp]
        refine calls_world (fun W => Below w.heap.size w W ∧ BoxZ W w.heap.size a ∧ BoxZ W (w.heap.size + 1) b ∧ BoxZ W (w.heap.size + 2) c ∧ BoxZ W Ax rx ∧ BoxZ W Ap rp) ⟨by (repeat' (first | (with_reducible assumption) | (with_reducible exact Below.refl _ _) | (with_reducible refine below_wov ?_ ?_ _) | (with_reducible refine below_drewN ?_ _) | (with_reducible refine Below.drew ?_) | (with_reducible refine Below.alloc ?_ ?_ _) | (with_reducible refine Below.setCell ?_ ?_ _) | (with_reducible exact Nat.le_refl _) | omega | (simp only [World.size_alloc, World.size_setCell, World.size_drew, Wov_size, World.heap_drewN]; omega))), m6_0.below (by (repeat' (first | (with_reducible assumption) | (with_reducible exact Below.refl _ _) | (with_reducible refine below_wov ?_ ?_ _) | (with_reducible refine below_drewN ?_ _) | (with_reducible refine Below.drew ?_) | (with_reducible refine Below.alloc ?_ ?_ _) | (with_reducible refine Below.setCell ?_ ?_ _) | (with_reducible exact Nat.le_refl _) | omega | (simp only [World.size_alloc, World.size_setCell, World.size_drew, Wov_size, World.heap_drewN]; omega)))), m6_1.below (by (repeat' (first | (with_reducible assumption) | (with_reducible exact Below.refl _ _) | (with_reducible refine below_wov ?_ ?_ _) | (with_reducible refine below_drewN ?_ _) | (with_reducible refine Below.drew ?_) | (with_reducible refine Below.alloc ?_ ?_ _) | (with_reducible refine Below.setCell ?_ ?_ _) | (with_reducible exact Nat.le_refl _) | omega | (simp only [World.size_alloc, World.size_setCell, World.size_drew, Wov_size, World.heap_drewN]; omega)))), m6_2.below (by (repeat' (first | (with_reducible assumption) | (with_reducible exact Below.refl _ _) | (with_reducible refine below_wov ?_ ?_ _) | (with_reducible refine below_drewN ?_ _) | (with_reducible refine Below.drew ?_) | (with_reducible refine Below.alloc ?_ ?_ _) | (with_reducible refine Below.setCell ?_ ?_ _) | (with_reducible exact Nat.le_refl _) | omega | (simp only [World.size_alloc, World.size_setCell, World.size_drew, Wov_size, World.heap_drewN]; omega)))), m6_3.below (by (repeat' (first | (with_reducible assumption) | (with_reducible exact Below.refl _ _) | (with_reducible refine below_wov ?_ ?_ _) | (with_reducible refine below_drewN ?_ _) | (with_reducible refine Below.drew ?_) | (with_reducible refine Below.alloc ?_ ?_ _) | (with_reducible refine Below.setCell ?_ ?_ _) | (with_reducible exact Nat.le_refl _) | omega | (simp only [World.size_alloc, World.size_setCell, World.size_drew, Wov_size, World.heap_drewN]; omega)))), BoxZ.new (by rw [← hAp]; (try simp only [Wov_size]))⟩ ?_
        rintro W7 ⟨hb7, m7_0, m7_1, m7_2, m7_3, m7_4⟩
        clear hb6 f6_0_lt f6_0_c0 f6_0_c1 f6_0_c2 f6_0_c3 f6_0_c4 f6_0_c5 f6_1_lt f6_1_c0 f6_1_c1 f6_1_c2 f6_1_c3 f6_1_c4 f6_1_c5 f6_2_lt f6_2_c0 f6_2_c1 f6_2_c2 f6_2_c3 f6_2_c4 f6_2_c5 f6_3_lt f6_3_c0 f6_3_c1 f6_3_c2 f6_3_c3 f6_3_c4 f6_3_c5 f6_4_lt f6_4_c0 f6_4_c1 f6_4_c2 f6_4_c3 f6_4_c4 f6_4_c5 f6_5_lt f6_5_c0 f6_5_c1 f6_5_c2 f6_5_c3 f6_5_c4 f6_5_c5 m6_0 m6_1 m6_2 m6_3 m6_4 m6_5 hs6
        have hs7 := hb7.size
        have f7_0_lt := m7_0.lt
        have f7_0_c0 := m7_0.c0
        have f7_0_c1 := m7_0.c1
        have f7_0_c2 := m7_0.c2
        have f7_0_c3 := m7_0.c3
        have f7_0_c4 := m7_0.c4
        have f7_0_c5 := m7_0.c5
        have f7_1_lt := m7_1.lt
        have f7_1_c0 := m7_1.c0
        have f7_1_c1 := m7_1.c1
        have f7_1_c2 := m7_1.c2
        have f7_1_c3 := m7_1.c3
        have f7_1_c4 := m7_1.c4
        have f7_1_c5 := m7_1.c5
        have f7_2_lt := m7_2.lt
        have f7_2_c0 := m7_2.c0
        have f7_2_c1 := m7_2.c1
        have f7_2_c2 := m7_2.c2
        have f7_2_c3 := m7_2.c3
        have f7_2_c4 := m7_2.c4
        have f7_2_c5 := m7_2.c5
        have f7_3_lt := m7_3.lt
        have f7_3_c0 := m7_3.c0
        have f7_3_c1 := m7_3.c1
        have f7_3_c2 := m7_3.c2
        have f7_3_c3 := m7_3.c3
        have f7_3_c4 := m7_3.c4
        have f7_3_c5 := m7_3.c5
        have f7_4_lt := m7_4.lt
        have f7_4_c0 := m7_4.c0
        have f7_4_c1 := m7_4.c1
        have f7_4_c2 := m7_4.c2
        have f7_4_c3 := m7_4.c3
        have f7_4_c4 := m7_4.c4
        have f7_4_c5 := m7_4.c5
        clear hAp
        refine (Cq.out _).mono ?_; rintro e w' ⟨rfl, qq, rfl⟩
        go_wp2_with (fail)
        obtain ⟨Aq, hAq⟩ : ∃ A, W7.heap.size + qq.bl.size = A := ⟨_, rfl⟩
        rw [hAq]
        refine calls_world (fun W => Below w.heap.size w W ∧ BoxZ W w.heap.size a ∧ BoxZ W (w.heap.size + 1) b ∧ BoxZ W (w.heap.size + 2) c ∧ BoxZ W Ax rx ∧ BoxZ W Ap rp ∧ BoxZ W Aq rq) ⟨by (repeat' (first | (with_reducible assumption) | (with_reducible exact Below.refl _ _) | (with_reducible refine below_wov ?_ ?_ _) | (with_reducible refine below_drewN ?_ _) | (with_reducible refine Below.drew ?_) | (with_reducible refine Below.alloc ?_ ?_ _) | (with_reducible refine Below.setCell ?_ ?_ _) | (with_reducible exact Nat.le_refl _) | omega | (simp only [World.size_alloc, World.size_setCell, World.size_drew, Wov_size, World.heap_drewN]; omega))), m7_0.below (by (repeat' (first | (with_reducible assumption) | (with_reducible exact Below.refl _ _) | (with_reducible refine below_wov ?_ ?_ _) | (with_reducible refine below_drewN ?_ _) | (with_reducible refine Below.drew ?_) | (with_reducible refine Below.alloc ?_ ?_ _) | (with_reducible refine Below.setCell ?_ ?_ _) | (with_reducible exact Nat.le_refl _) | omega | (simp only [World.size_alloc, World.size_setCell, World.size_drew, Wov_size, World.heap_drewN]; omega)))), m7_1.below (by (repeat' (first | (with_reducible assumption) | (with_reducible exact Below.refl _ _) | (with_reducible refine below_wov ?_ ?_ _) | (with_reducible refine below_drewN ?_ _) | (with_reducible refine Below.drew ?_) | (with_reducible refine Below.alloc ?_ ?_ _) | (with_reducible refine Below.setCell ?_ ?_ _) | (with_reducible exact Nat.le_refl _) | omega | (simp only [World.size_alloc, World.size_setCell, World.size_drew, Wov_size, World.heap_drewN]; omega)))), m7_2.below (by (repeat' (first | (with_reducible assumption) | (with_reducible exact Below.refl _ _) | (with_reducible refine below_wov ?_ ?_ _) | (with_reducible refine below_drewN ?_ _) | (with_reducible refine Below.drew ?_) | (with_reducible refine Below.alloc ?_ ?_ _) | (with_reducible refine Below.setCell ?_ ?_ _) | (with_reducible exact Nat.le_refl _) | omega | (simp only [World.size_alloc, World.size_setCell, World.size_drew, Wov_size, World.heap_drewN]; omega)))), m7_3.below (by (repeat' (first | (with_reducible assumption) | (with_reducible exact Below.refl _ _) | (with_reducible refine below_wov ?_ ?_ _) | (with_reducible refine below_drewN ?_ _) | (with_reducible refine Below.drew ?_) | (with_reducible refine Below.alloc ?_ ?_ _) | (with_reducible refine Below.setCell ?_ ?_ _) | (with_reducible exact Nat.le_refl _) | omega | (simp only [World.size_alloc, World.size_setCell, World.size_drew, Wov_size, World.heap_drewN]; omega)))), m7_4.below (by (repeat' (first | (with_reducible assumption) | (with_reducible exact Below.refl _ _) | (with_reducible refine below_wov ?_ ?_ _) | (with_reducible refine below_drewN ?_ _) | (with_reducible refine Below.drew ?_) | (with_reducible refine Below.alloc ?_ ?_ _) | (with_reducible refine Below.setCell ?_ ?_ _) | (with_reducible exact Nat.le_refl _) | omega | (simp only [World.size_alloc, World.size_setCell, World.size_drew, Wov_size, World.heap_drewN]; omega)))), BoxZ.new (by rw [← hAq]; (try simp only [Wov_size]))⟩ ?_
        rintro W8 ⟨hb8, m8_0, m8_1, m8_2, m8_3, m8_4, m8_5⟩
        clear hb7 f7_0_lt f7_0_c0 f7_0_c1 f7_0_c2 f7_0_c3 f7_0_c4 f7_0_c5 f7_1_lt f7_1_c0 f7_1_c1 f7_1_c2 f7_1_c3 f7_1_c4 f7_1_c5 f7_2_lt f7_2_c0 f7_2_c1 f7_2_c2 f7_2_c3 f7_2_c4 f7_2_c5 f7_3_lt f7_3_c0 f7_3_c1 f7_3_c2 f7_3_c3 f7_3_c4 f7_3_c5 f7_4_lt f7_4_c0 f7_4_c1 f7_4_c2 f7_4_c3 f7_4_c4 f7_4_c5 m7_0 m7_1 m7_2 m7_3 m7_4 hs7
        have hs8 := hb8.size
        have f8_0_lt := m8_0.lt
        have f8_0_c0 := m8_0.c0
        have f8_0_c1 := m8_0.c1
        have f8_0_c2 := m8_0.c2
        have f8_0_c3 := m8_0.c3
        have f8_0_c4 := m8_0.c4
        have f8_0_c5 := m8_0.c5
        have f8_1_lt := m8_1.lt
        have f8_1_c0 := m8_1.c0
        have f8_1_c1 := m8_1.c1
        have f8_1_c2 := m8_1.c2
        have f8_1_c3 := m8_1.c3
        have f8_1_c4 := m8_1.c4
        have f8_1_c5 := m8_1.c5
        have f8_2_lt := m8_2.lt
        have f8_2_c0 := m8_2.c0
        have f8_2_c1 := m8_2.c1
        have f8_2_c2 := m8_2.c2
        have f8_2_c3 := m8_2.c3
        have f8_2_c4 := m8_2.c4
        have f8_2_c5 := m8_2.c5
        have f8_3_lt := m8_3.lt
        have f8_3_c0 := m8_3.c0
        have f8_3_c1 := m8_3.c1
        have f8_3_c2 := m8_3.c2
        have f8_3_c3 := m8_3.c3
        have f8_3_c4 := m8_3.c4
        have f8_3_c5 := m8_3.c5
        have f8_4_lt := m8_4.lt
        have f8_4_c0 := m8_4.c0
        have f8_4_c1 := m8_4.c1
        have f8_4_c2 := m8_4.c2
        have f8_4_c3 := m8_4.c3
        have f8_4_c4 := m8_4.c4
        have f8_4_c5 := m8_4.c5
        have f8_5_lt := m8_5.lt
        have f8_5_c0 := m8_5.c0
        have f8_5_c1 := m8_5.c1
        have f8_5_c2 := m8_5.c2
        have f8_5_c3 := m8_5.c3
        have f8_5_c4 := m8_5.c4
        have f8_5_c5 := m8_5.c5
        clear hAq
        refine (Co.out _).mono ?_; rintro e w' ⟨rfl, qo, rfl⟩
        go_wp2_with (fail)
        obtain ⟨Ao, hAo⟩ : ∃ A, W8.heap.size + qo.bl.size = A := ⟨_, rfl⟩
        rw [hAo]
        refine calls_world (fun W => Below w.heap.size w W ∧ BoxZ W w.heap.size a ∧ BoxZ W (w.heap.size + 1) b ∧ BoxZ W (w.heap.size + 2) c ∧ BoxZ W Ax rx ∧ BoxZ W Ap rp ∧ BoxZ W Aq rq ∧ BoxZ W Ao ro) ⟨by (repeat' (first | (with_reducible assumption) | (with_reducible exact Below.refl _ _) | (with_reducible refine below_wov ?_ ?_ _) | (with_reducible refine below_drewN ?_ _) | (with_reducible refine Below.drew ?_) | (with_reducible refine Below.alloc ?_ ?_ _) | (with_reducible refine Below.setCell ?_ ?_ _) | (with_reducible exact Nat.le_refl _) | omega | (simp only [World.size_alloc, World.size_setCell, World.size_drew, Wov_size, World.heap_drewN]; omega))), m8_0.below (by (repeat' (first | (with_reducible assumption) | (with_reducible exact Below.refl _ _) | (with_reducible refine below_wov ?_ ?_ _) | (with_reducible refine below_drewN ?_ _) | (with_reducible refine Below.drew ?_) | (with_reducible refine Below.alloc ?_ ?_ _) | (with_reducible refine Below.setCell ?_ ?_ _) | (with_reducible exact Nat.le_refl _) | omega | (simp only [World.size_alloc, World.size_setCell, World.size_drew, Wov_size, World.heap_drewN]; omega)))), m8_1.below (by (repeat' (first | (with_reducible assumption) | (with_reducible exact Below.refl _ _) | (with_reducible refine below_wov ?_ ?_ _) | (with_reducible refine below_drewN ?_ _) | (with_reducible refine Below.drew ?_) | (with_reducible refine Below.alloc ?_ ?_ _) | (with_reducible refine Below.setCell ?_ ?_ _) | (with_reducible exact Nat.le_refl _) | omega | (simp only [World.size_alloc, World.size_setCell, World.size_drew, Wov_size, World.heap_drewN]; omega)))), m8_2.below (by (repeat' (first | (with_reducible assumption) | (with_reducible exact Below.refl _ _) | (with_reducible refine below_wov ?_ ?_ _) | (with_reducible refine below_drewN ?_ _) | (with_reducible refine Below.drew ?_) | (with_reducible refine Below.alloc ?_ ?_ _) | (with_reducible refine Below.setCell ?_ ?_ _) | (with_reducible exact Nat.le_refl _) | omega | (simp only [World.size_alloc, World.size_setCell, World.size_drew, Wov_size, World.heap_drewN]; omega)))), m8_3.below (by (repeat' (first | (with_reducible assumption) | (with_reducible exact Below.refl _ _) | (with_reducible refine below_wov ?_ ?_ _) | (with_reducible refine below_drewN ?_ _) | (with_reducible refine Below.drew ?_) | (with_reducible refine Below.alloc ?_ ?_ _) | (with_reducible refine Below.setCell ?_ ?_ _) | (with_reducible exact Nat.le_refl _) | omega | (simp only [World.size_alloc, World.size_setCell, World.size_drew, Wov_size, World.heap_drewN]; omega)))), m8_4.below (by (repeat' (first | (with_reducible assumption) | (with_reducible exact Below.refl _ _) | (with_reducible refine below_wov ?_ ?_ _) | (with_reducible refine below_drewN ?_ _) | (with_reducible refine Below.drew ?_) | (with_reducible refine Below.alloc ?_ ?_ _) | (with_reducible refine Below.setCell ?_ ?_ _) | (with_reducible exact Nat.le_refl _) | omega | (simp only [World.size_alloc, World.size_setCell, World.size_drew, Wov_size, World.heap_drewN]; omega)))), m8_5.below (by (repeat' (first | (with_reducible assumption) | (with_reducible exact Below.refl _ _) | (with_reducible refine below_wov ?_ ?_ _) | (with_reducible refine below_drewN ?_ _) | (with_reducible refine Below.drew ?_) | (with_reducible refine Below.alloc ?_ ?_ _) | (with_reducible refine Below.setCell ?_ ?_ _) | (with_reducible exact Nat.le_refl _) | omega | (simp only [World.size_alloc, World.size_setCell, World.size_drew, Wov_size, World.heap_drewN]; omega)))), BoxZ.new (by rw [← hAo]; (try simp only [Wov_size]))⟩ ?_
        rintro W9 ⟨hb9, m9_0, m9_1, m9_2, m9_3, m9_4, m9_5, m9_6⟩
        clear hb8 f8_0_lt f8_0_c0 f8_0_c1 f8_0_c2 f8_0_c3 f8_0_c4 f8_0_c5 f8_1_lt f8_1_c0 f8_1_c1 f8_1_c2 f8_1_c3 f8_1_c4 f8_1_c5 f8_2_lt f8_2_c0 f8_2_c1 f8_2_c2 f8_2_c3 f8_2_c4 f8_2_c5 f8_3_lt f8_3_c0 f8_3_c1 f8_3_c2 f8_3_c3 f8_3_c4 f8_3_c5 f8_4_lt f8_4_c0 f8_4_c1 f8_4_c2 f8_4_c3 f8_4_c4 f8_4_c5 f8_5_lt f8_5_c0 f8_5_c1 f8_5_c2 f8_5_c3 f8_5_c4 f8_5_c5 m8_0 m8_1 m8_2 m8_3 m8_4 m8_5 hs8
        have hs9 := hb9.size
        have f9_0_lt := m9_0.lt
        have f9_0_c0 := m9_0.c0
        have f9_0_c1 := m9_0.c1
        have f9_0_c2 := m9_0.c2
        have f9_0_c3 := m9_0.c3
        have f9_0_c4 := m9_0.c4
        have f9_0_c5 := m9_0.c5
        have f9_1_lt := m9_1.lt
        have f9_1_c0 := m9_1.c0
        have f9_1_c1 := m9_1.c1
        have f9_1_c2 := m9_1.c2
        have f9_1_c3 := m9_1.c3
        have f9_1_c4 := m9_1.c4
        have f9_1_c5 := m9_1.c5
        have f9_2_lt := m9_2.lt
        have f9_2_c0 := m9_2.c0
        have f9_2_c1 := m9_2.c1
        have f9_2_c2 := m9_2.c2
        have f9_2_c3 := m9_2.c3
        have f9_2_c4 := m9_2.c4
        have f9_2_c5 := m9_2.c5
        have f9_3_lt := m9_3.lt
        have f9_3_c0 := m9_3.c0
        have f9_3_c1 := m9_3.c1
        have f9_3_c2 := m9_3.c2
        have f9_3_c3 := m9_3.c3
        have f9_3_c4 := m9_3.c4
        have f9_3_c5 := m9_3.c5
        have f9_4_lt := m9_4.lt
        have f9_4_c0 := m9_4.c0
        have f9_4_c1 := m9_4.c1
        have f9_4_c2 := m9_4.c2
        have f9_4_c3 := m9_4.c3
        have f9_4_c4 := m9_4.c4
        have f9_4_c5 := m9_4.c5
        have f9_5_lt := m9_5.lt
        have f9_5_c0 := m9_5.c0
        have f9_5_c1 := m9_5.c1
        have f9_5_c2 := m9_5.c2
        have f9_5_c3 := m9_5.c3
        have f9_5_c4 := m9_5.c4
        have f9_5_c5 := m9_5.c5
        have f9_6_lt := m9_6.lt
        have f9_6_c0 := m9_6.c0
        have f9_6_c1 := m9_6.c1
        have f9_6_c2 := m9_6.c2
        have f9_6_c3 := m9_6.c3
        have f9_6_c4 := m9_6.c4
        have f9_6_c5 := m9_6.c5
        clear hAo
        refine (Cr.out _).mono ?_; rintro e w' ⟨rfl, qr, rfl⟩
        clear Cp Cq Co Cr
        obtain ⟨s, HS1, HS2⟩ := HS.out (by simp)
        have HS1 := Lib.hid HS1
        go_wp2_with (fail)
        obtain ⟨Ar, hAr⟩ : ∃ A, W9.heap.size + qr.bl.size = A := ⟨_, rfl⟩
        rw [hAr]
        refine calls_world (fun W => Below w.heap.size w W ∧ BoxZ W w.heap.size a ∧ BoxZ W (w.heap.size + 1) b ∧ BoxZ W (w.heap.size + 2) c ∧ BoxZ W Ax rx ∧ BoxZ W Ao ro ∧ BoxZ W Ar rr) ⟨by (repeat' (first | (with_reducible assumption) | (with_reducible exact Below.refl _ _) | (with_reducible refine below_wov ?_ ?_ _) | (with_reducible refine below_drewN ?_ _) | (with_reducible refine Below.drew ?_) | (with_reducible refine Below.alloc ?_ ?_ _) | (with_reducible refine Below.setCell ?_ ?_ _) | (with_reducible exact Nat.le_refl _) | omega | (simp only [World.size_alloc, World.size_setCell, World.size_drew, Wov_size, World.heap_drewN]; omega))), m9_0.below (by (repeat' (first | (with_reducible assumption) | (with_reducible exact Below.refl _ _) | (with_reducible refine below_wov ?_ ?_ _) | (with_reducible refine below_drewN ?_ _) | (with_reducible refine Below.drew ?_) | (with_reducible refine Below.alloc ?_ ?_ _) | (with_reducible refine Below.setCell ?_ ?_ _) | (with_reducible exact Nat.le_refl _) | omega | (simp only [World.size_alloc, World.size_setCell, World.size_drew, Wov_size, World.heap_drewN]; omega)))), m9_1.below (by (repeat' (first | (with_reducible assumption) | (with_reducible exact Below.refl _ _) | (with_reducible refine below_wov ?_ ?_ _) | (with_reducible refine below_drewN ?_ _) | (with_reducible refine Below.drew ?_) | (with_reducible refine Below.alloc ?_ ?_ _) | (with_reducible refine Below.setCell ?_ ?_ _) | (with_reducible exact Nat.le_refl _) | omega | (simp only [World.size_alloc, World.size_setCell, World.size_drew, Wov_size, World.heap_drewN]; omega)))), m9_2.below (by (repeat' (first | (with_reducible assumption) | (with_reducible exact Below.refl _ _) | (with_reducible refine below_wov ?_ ?_ _) | (with_reducible refine below_drewN ?_ _) | (with_reducible refine Below.drew ?_) | (with_reducible refine Below.alloc ?_ ?_ _) | (with_reducible refine Below.setCell ?_ ?_ _) | (with_reducible exact Nat.le_refl _) | omega | (simp only [World.size_alloc, World.size_setCell, World.size_drew, Wov_size, World.heap_drewN]; omega)))), m9_3.below (by (repeat' (first | (with_reducible assumption) | (with_reducible exact Below.refl _ _) | (with_reducible refine below_wov ?_ ?_ _) | (with_reducible refine below_drewN ?_ _) | (with_reducible refine Below.drew ?_) | (with_reducible refine Below.alloc ?_ ?_ _) | (with_reducible refine Below.setCell ?_ ?_ _) | (with_reducible exact Nat.le_refl _) | omega | (simp only [World.size_alloc, World.size_setCell, World.size_drew, Wov_size, World.heap_drewN]; omega)))), m9_6.below (by (repeat' (first | (with_reducible assumption) | (with_reducible exact Below.refl _ _) | (with_reducible refine below_wov ?_ ?_ _) | (with_reducible refine below_drewN ?_ _) | (with_reducible refine Below.drew ?_) | (with_reducible refine Below.alloc ?_ ?_ _) | (with_reducible refine Below.setCell ?_ ?_ _) | (with_reducible exact Nat.le_refl _) | omega | (simp only [World.size_alloc, World.size_setCell, World.size_drew, Wov_size, World.heap_drewN]; omega)))), BoxZ.new (by rw [← hAr]; (try simp only [Wov_size]))⟩ ?_
        rintro W10 ⟨hb10, m10_0, m10_1, m10_2, m10_3, m10_4, m10_5⟩
        clear hb9 f9_0_lt f9_0_c0 f9_0_c1 f9_0_c2 f9_0_c3 f9_0_c4 f9_0_c5 f9_1_lt f9_1_c0 f9_1_c1 f9_1_c2 f9_1_c3 f9_1_c4 f9_1_c5 f9_2_lt f9_2_c0 f9_2_c1 f9_2_c2 f9_2_c3 f9_2_c4 f9_2_c5 f9_3_lt f9_3_c0 f9_3_c1 f9_3_c2 f9_3_c3 f9_3_c4 f9_3_c5 f9_4_lt f9_4_c0 f9_4_c1 f9_4_c2 f9_4_c3 f9_4_c4 f9_4_c5 f9_5_lt f9_5_c0 f9_5_c1 f9_5_c2 f9_5_c3 f9_5_c4 f9_5_c5 f9_6_lt f9_6_c0 f9_6_c1 f9_6_c2 f9_6_c3 f9_6_c4 f9_6_c5 m9_0 m9_1 m9_2 m9_3 m9_4 m9_5 m9_6 hs9
        have hs10 := hb10.size
        have f10_0_lt := m10_0.lt
        have f10_0_c0 := m10_0.c0
        have f10_0_c1 := m10_0.c1
        have f10_0_c2 := m10_0.c2
        have f10_0_c3 := m10_0.c3
        have f10_0_c4 := m10_0.c4
        have f10_0_c5 := m10_0.c5
        have f10_1_lt := m10_1.lt
        have f10_1_c0 := m10_1.c0
        have f10_1_c1 := m10_1.c1
        have f10_1_c2 := m10_1.c2
        have f10_1_c3 := m10_1.c3
        have f10_1_c4 := m10_1.c4
        have f10_1_c5 := m10_1.c5
        have f10_2_lt := m10_2.lt
        have f10_2_c0 := m10_2.c0
        have f10_2_c1 := m10_2.c1
        have f10_2_c2 := m10_2.c2
        have f10_2_c3 := m10_2.c3
        have f10_2_c4 := m10_2.c4
        have f10_2_c5 := m10_2.c5
        have f10_3_lt := m10_3.lt
        have f10_3_c0 := m10_3.c0
        have f10_3_c1 := m10_3.c1
        have f10_3_c2 := m10_3.c2
        have f10_3_c3 := m10_3.c3
        have f10_3_c4 := m10_3.c4
        have f10_3_c5 := m10_3.c5
        have f10_4_lt := m10_4.lt
        have f10_4_c0 := m10_4.c0
        have f10_4_c1 := m10_4.c1
        have f10_4_c2 := m10_4.c2
        have f10_4_c3 := m10_4.c3
        have f10_4_c4 := m10_4.c4
        have f10_4_c5 := m10_4.c5
        have f10_5_lt := m10_5.lt
        have f10_5_c0 := m10_5.c0
        have f10_5_c1 := m10_5.c1
        have f10_5_c2 := m10_5.c2
        have f10_5_c3 := m10_5.c3
        have f10_5_c4 := m10_5.c4
        have f10_5_c5 := m10_5.c5
        clear hAr
        refine (HS1.out _).mono ?_; rintro e w' ⟨rfl, qs, rfl⟩
        go_wp2_with (fail)
        obtain ⟨As, hAs⟩ : ∃ A, W10.heap.size + qs.bl.size = A := ⟨_, rfl⟩
        rw [hAs]
        refine calls_world (fun W => Below w.heap.size w W ∧ BoxZ W w.heap.size a ∧ BoxZ W (w.heap.size + 1) b ∧ BoxZ W (w.heap.size + 2) c ∧ BoxZ W Ax rx ∧ BoxZ W Ar rr ∧ BoxZ W As s) ⟨by (repeat' (first | (with_reducible assumption) | (with_reducible exact Below.refl _ _) | (with_reducible refine below_wov ?_ ?_ _) | (with_reducible refine below_drewN ?_ _) | (with_reducible refine Below.drew ?_) | (with_reducible refine Below.alloc ?_ ?_ _) | (with_reducible refine Below.setCell ?_ ?_ _) | (with_reducible exact Nat.le_refl _) | omega | (simp only [World.size_alloc, World.size_setCell, World.size_drew, Wov_size, World.heap_drewN]; omega))), m10_0.below (by (repeat' (first | (with_reducible assumption) | (with_reducible exact Below.refl _ _) | (with_reducible refine below_wov ?_ ?_ _) | (with_reducible refine below_drewN ?_ _) | (with_reducible refine Below.drew ?_) | (with_reducible refine Below.alloc ?_ ?_ _) | (with_reducible refine Below.setCell ?_ ?_ _) | (with_reducible exact Nat.le_refl _) | omega | (simp only [World.size_alloc, World.size_setCell, World.size_drew, Wov_size, World.heap_drewN]; omega)))), m10_1.below (by (repeat' (first | (with_reducible assumption) | (with_reducible exact Below.refl _ _) | (with_reducible refine below_wov ?_ ?_ _) | (with_reducible refine below_drewN ?_ _) | (with_reducible refine Below.drew ?_) | (with_reducible refine Below.alloc ?_ ?_ _) | (with_reducible refine Below.setCell ?_ ?_ _) | (with_reducible exact Nat.le_refl _) | omega | (simp only [World.size_alloc, World.size_setCell, World.size_drew, Wov_size, World.heap_drewN]; omega)))), m10_2.below (by (repeat' (first | (with_reducible assumption) | (with_reducible exact Below.refl _ _) | (with_reducible refine below_wov ?_ ?_ _) | (with_reducible refine below_drewN ?_ _) | (with_reducible refine Below.drew ?_) | (with_reducible refine Below.alloc ?_ ?_ _) | (with_reducible refine Below.setCell ?_ ?_ _) | (with_reducible exact Nat.le_refl _) | omega | (simp only [World.size_alloc, World.size_setCell, World.size_drew, Wov_size, World.heap_drewN]; omega)))), m10_3.below (by (repeat' (first | (with_reducible assumption) | (with_reducible exact Below.refl _ _) | (with_reducible refine below_wov ?_ ?_ _) | (with_reducible refine below_drewN ?_ _) | (with_reducible refine Below.drew ?_) | (with_reducible refine Below.alloc ?_ ?_ _) | (with_reducible refine Below.setCell ?_ ?_ _) | (with_reducible exact Nat.le_refl _) | omega | (simp only [World.size_alloc, World.size_setCell, World.size_drew, Wov_size, World.heap_drewN]; omega)))), m10_5.below (by (repeat' (first | (with_reducible assumption) | (with_reducible exact Below.refl _ _) | (with_reducible refine below_wov ?_ ?_ _) | (with_reducible refine below_drewN ?_ _) | (with_reducible refine Below.drew ?_) | (with_reducible refine Below.alloc ?_ ?_ _) | (with_reducible refine Below.setCell ?_ ?_ _) | (with_reducible exact Nat.le_refl _) | omega | (simp only [World.size_alloc, World.size_setCell, World.size_drew, Wov_size, World.heap_drewN]; omega)))), BoxZ.new (by rw [← hAs]; (try simp only [Wov_size]))⟩ ?_
        rintro W11 ⟨hb11, m11_0, m11_1, m11_2, m11_3, m11_4, m11_5⟩
        clear hb10 f10_0_lt f10_0_c0 f10_0_c1 f10_0_c2 f10_0_c3 f10_0_c4 f10_0_c5 f10_1_lt f10_1_c0 f10_1_c1 f10_1_c2 f10_1_c3 f10_1_c4 f10_1_c5 f10_2_lt f10_2_c0 f10_2_c1 f10_2_c2 f10_2_c3 f10_2_c4 f10_2_c5 f10_3_lt f10_3_c0 f10_3_c1 f10_3_c2 f10_3_c3 f10_3_c4 f10_3_c5 f10_4_lt f10_4_c0 f10_4_c1 f10_4_c2 f10_4_c3 f10_4_c4 f10_4_c5 f10_5_lt f10_5_c0 f10_5_c1 f10_5_c2 f10_5_c3 f10_5_c4 f10_5_c5 m10_0 m10_1 m10_2 m10_3 m10_4 m10_5 hs10
        have hs11 := hb11.size
        have f11_0_lt := m11_0.lt
        have f11_0_c0 := m11_0.c0
        have f11_0_c1 := m11_0.c1
        have f11_0_c2 := m11_0.c2
        have f11_0_c3 := m11_0.c3
        have f11_0_c4 := m11_0.c4
        have f11_0_c5 := m11_0.c5
        have f11_1_lt := m11_1.lt
        have f11_1_c0 := m11_1.c0
        have f11_1_c1 := m11_1.c1
        have f11_1_c2 := m11_1.c2
        have f11_1_c3 := m11_1.c3
        have f11_1_c4 := m11_1.c4
        have f11_1_c5 := m11_1.c5
        have f11_2_lt := m11_2.lt
        have f11_2_c0 := m11_2.c0
        have f11_2_c1 := m11_2.c1
        have f11_2_c2 := m11_2.c2
        have f11_2_c3 := m11_2.c3
        have f11_2_c4 := m11_2.c4
        have f11_2_c5 := m11_2.c5
        have f11_3_lt := m11_3.lt
        have f11_3_c0 := m11_3.c0
        have f11_3_c1 := m11_3.c1
        have f11_3_c2 := m11_3.c2
        have f11_3_c3 := m11_3.c3
        have f11_3_c4 := m11_3.c4
        have f11_3_c5 := m11_3.c5
        have f11_4_lt := m11_4.lt
        have f11_4_c0 := m11_4.c0
        have f11_4_c1 := m11_4.c1
        have f11_4_c2 := m11_4.c2
        have f11_4_c3 := m11_4.c3
        have f11_4_c4 := m11_4.c4
        have f11_4_c5 := m11_4.c5
        have f11_5_lt := m11_5.lt
        have f11_5_c0 := m11_5.c0
        have f11_5_c1 := m11_5.c1
        have f11_5_c2 := m11_5.c2
        have f11_5_c3 := m11_5.c3
        have f11_5_c4 := m11_5.c4
        have f11_5_c5 := m11_5.c5
        clear hAs
        clear HS1 HS
        refine (Cl.out _).mono ?_; rintro e w' ⟨rfl, ql, rfl⟩
        by_cases hl0 : el = 0
        · skip
          subst hl0
          obtain ⟨m, em, he, M1, M2⟩ := HM.out (by simp)
          have M1 := Lib.hid M1
          have M2 := Lib.hid M2
          clear HM Cl
          go_wp2_with (fail)
          obtain ⟨Al, hAl⟩ : ∃ A, W11.heap.size + ql.bl.size = A := ⟨_, rfl⟩
          rw [hAl]
          refine calls_world (fun W => Below w.heap.size w W ∧ BoxZ W (w.heap.size + 1) b ∧ BoxZ W Ax rx ∧ BoxZ W Al rl) ⟨by (repeat' (first | (with_reducible assumption) | (with_reducible exact Below.refl _ _) | (with_reducible refine below_wov ?_ ?_ _) | (with_reducible refine below_drewN ?_ _) | (with_reducible refine Below.drew ?_) | (with_reducible refine Below.alloc ?_ ?_ _) | (with_reducible refine Below.setCell ?_ ?_ _) | (with_reducible exact Nat.le_refl _) | omega | (simp only [World.size_alloc, World.size_setCell, World.size_drew, Wov_size, World.heap_drewN]; omega))), m11_1.below (by (repeat' (first | (with_reducible assumption) | (with_reducible exact Below.refl _ _) | (with_reducible refine below_wov ?_ ?_ _) | (with_reducible refine below_drewN ?_ _) | (with_reducible refine Below.drew ?_) | (with_reducible refine Below.alloc ?_ ?_ _) | (with_reducible refine Below.setCell ?_ ?_ _) | (with_reducible exact Nat.le_refl _) | omega | (simp only [World.size_alloc, World.size_setCell, World.size_drew, Wov_size, World.heap_drewN]; omega)))), m11_3.below (by (repeat' (first | (with_reducible assumption) | (with_reducible exact Below.refl _ _) | (with_reducible refine below_wov ?_ ?_ _) | (with_reducible refine below_drewN ?_ _) | (with_reducible refine Below.drew ?_) | (with_reducible refine Below.alloc ?_ ?_ _) | (with_reducible refine Below.setCell ?_ ?_ _) | (with_reducible exact Nat.le_refl _) | omega | (simp only [World.size_alloc, World.size_setCell, World.size_drew, Wov_size, World.heap_drewN]; omega)))), BoxZ.new (by rw [← hAl]; (try simp only [Wov_size]))⟩ ?_
          rintro W12 ⟨hb12, m12_0, m12_1, m12_2⟩
          clear hb11 f11_0_lt f11_0_c0 f11_0_c1 f11_0_c2 f11_0_c3 f11_0_c4 f11_0_c5 f11_1_lt f11_1_c0 f11_1_c1 f11_1_c2 f11_1_c3 f11_1_c4 f11_1_c5 f11_2_lt f11_2_c0 f11_2_c1 f11_2_c2 f11_2_c3 f11_2_c4 f11_2_c5 f11_3_lt f11_3_c0 f11_3_c1 f11_3_c2 f11_3_c3 f11_3_c4 f11_3_c5 f11_4_lt f11_4_c0 f11_4_c1 f11_4_c2 f11_4_c3 f11_4_c4 f11_4_c5 f11_5_lt f11_5_c0 f11_5_c1 f11_5_c2 f11_5_c3 f11_5_c4 f11_5_c5 m11_0 m11_1 m11_2 m11_3 m11_4 m11_5 hs11
          have hs12 := hb12.size
          have f12_0_lt := m12_0.lt
          have f12_0_c0 := m12_0.c0
          have f12_0_c1 := m12_0.c1
          have f12_0_c2 := m12_0.c2
          have f12_0_c3 := m12_0.c3
          have f12_0_c4 := m12_0.c4
          have f12_0_c5 := m12_0.c5
          have f12_1_lt := m12_1.lt
          have f12_1_c0 := m12_1.c0
          have f12_1_c1 := m12_1.c1
          have f12_1_c2 := m12_1.c2
          have f12_1_c3 := m12_1.c3
          have f12_1_c4 := m12_1.c4
          have f12_1_c5 := m12_1.c5
          have f12_2_lt := m12_2.lt
          have f12_2_c0 := m12_2.c0
          have f12_2_c1 := m12_2.c1
          have f12_2_c2 := m12_2.c2
          have f12_2_c3 := m12_2.c3
          have f12_2_c4 := m12_2.c4
          have f12_2_c5 := m12_2.c5
          clear hAl
          refine (M1.out _).mono ?_; rintro e w' ⟨rfl, qm, rfl⟩
          by_cases hm0 : em = 0
          · skip
            subst hm0
            obtain ⟨k, ek, K1, K2⟩ := M2.out (by simp)
            have K1 := Lib.hid K1
            clear M1 M2 he
            obtain ⟨rfl, rfl⟩ := K2 (by simp)
            go_wp2_with (fail)
            obtain ⟨Am, hAm⟩ : ∃ A, W12.heap.size + qm.bl.size = A := ⟨_, rfl⟩
            rw [hAm]
            refine calls_world (fun W => Below w.heap.size w W ∧ BoxZ W Ax rx ∧ BoxZ W Am m) ⟨by (repeat' (first | (with_reducible assumption) | (with_reducible exact Below.refl _ _) | (with_reducible refine below_wov ?_ ?_ _) | (with_reducible refine below_drewN ?_ _) | (with_reducible refine Below.drew ?_) | (with_reducible refine Below.alloc ?_ ?_ _) | (with_reducible refine Below.setCell ?_ ?_ _) | (with_reducible exact Nat.le_refl _) | omega | (simp only [World.size_alloc, World.size_setCell, World.size_drew, Wov_size, World.heap_drewN]; omega))), m12_1.below (by (repeat' (first | (with_reducible assumption) | (with_reducible exact Below.refl _ _) | (with_reducible refine below_wov ?_ ?_ _) | (with_reducible refine below_drewN ?_ _) | (with_reducible refine Below.drew ?_) | (with_reducible refine Below.alloc ?_ ?_ _) | (with_reducible refine Below.setCell ?_ ?_ _) | (with_reducible exact Nat.le_refl _) | omega | (simp only [World.size_alloc, World.size_setCell, World.size_drew, Wov_size, World.heap_drewN]; omega)))), BoxZ.new (by rw [← hAm]; (try simp only [Wov_size]))⟩ ?_
            rintro W13 ⟨hb13, m13_0, m13_1⟩
            clear hb12 f12_0_lt f12_0_c0 f12_0_c1 f12_0_c2 f12_0_c3 f12_0_c4 f12_0_c5 f12_1_lt f12_1_c0 f12_1_c1 f12_1_c2 f12_1_c3 f12_1_c4 f12_1_c5 f12_2_lt f12_2_c0 f12_2_c1 f12_2_c2 f12_2_c3 f12_2_c4 f12_2_c5 m12_0 m12_1 m12_2 hs12
            have hs13 := hb13.size
            have f13_0_lt := m13_0.lt
            have f13_0_c0 := m13_0.c0
            have f13_0_c1 := m13_0.c1
            have f13_0_c2 := m13_0.c2
            have f13_0_c3 := m13_0.c3
            have f13_0_c4 := m13_0.c4
            have f13_0_c5 := m13_0.c5
            have f13_1_lt := m13_1.lt
            have f13_1_c0 := m13_1.c0
            have f13_1_c1 := m13_1.c1
            have f13_1_c2 := m13_1.c2
            have f13_1_c3 := m13_1.c3
            have f13_1_c4 := m13_1.c4
            have f13_1_c5 := m13_1.c5
            clear hAm
            refine (K1.out _).mono ?_; rintro e w' ⟨rfl, qk, rfl⟩
            clear K1
            go_wp2
            all_goals
              go_ret
              exact gives_bool (by simp) (by (repeat' (first | (with_reducible assumption) | (with_reducible exact Below.refl _ _) | (with_reducible refine below_wov ?_ ?_ _) | (with_reducible refine below_drewN ?_ _) | (with_reducible refine Below.drew ?_) | (with_reducible refine Below.alloc ?_ ?_ _) | (with_reducible refine Below.setCell ?_ ?_ _) | (with_reducible exact Nat.le_refl _) | omega | (simp only [World.size_alloc, World.size_setCell, World.size_drew, Wov_size, World.heap_drewN]; omega))))
          · skip
            clear M1 M2
            rcases he with he | rfl | rfl
            · exact absurd he hm0
            all_goals
              clear hm0
              go_wp2
              all_goals
                go_ret
                exact gives_bool (by simp) (by (repeat' (first | (with_reducible assumption) | (with_reducible exact Below.refl _ _) | (with_reducible refine below_wov ?_ ?_ _) | (with_reducible refine below_drewN ?_ _) | (with_reducible refine Below.drew ?_) | (with_reducible refine Below.alloc ?_ ?_ _) | (with_reducible refine Below.setCell ?_ ?_ _) | (with_reducible exact Nat.le_refl _) | omega | (simp only [World.size_alloc, World.size_setCell, World.size_drew, Wov_size, World.heap_drewN]; omega))))
        · skip
          have bl0 : (el != 0) = true := by rw [bne_iff_ne]; exact hl0
          clear HM Cl hl0
          go_wp2
          all_goals
            go_ret
            exact gives_bool (by simp) (by (repeat' (first | (with_reducible assumption) | (with_reducible exact Below.refl _ _) | (with_reducible refine below_wov ?_ ?_ _) | (with_reducible refine below_drewN ?_ _) | (with_reducible refine Below.drew ?_) | (with_reducible refine Below.alloc ?_ ?_ _) | (with_reducible refine Below.setCell ?_ ?_ _) | (with_reducible exact Nat.le_refl _) | omega | (simp only [World.size_alloc, World.size_setCell, World.size_drew, Wov_size, World.heap_drewN]; omega))))
      · skip
        have bf0 : (ey == 0) = false := by rw [beq_eq_false_iff_ne]; exact hf0
        clear O1 hf0
        go_wp2_with (fail)
        obtain ⟨Ay, hAy⟩ : ∃ A, W3.heap.size + qy.bl.size = A := ⟨_, rfl⟩
        rw [hAy]
        refine calls_world (fun W => Below w.heap.size w W ∧ BoxZ W w.heap.size a ∧ BoxZ W (w.heap.size + 1) b ∧ BoxZ W (w.heap.size + 2) c ∧ BoxZ W Ax rx ∧ BoxZ W Ay ry) ⟨by (repeat' (first | (with_reducible assumption) | (with_reducible exact Below.refl _ _) | (with_reducible refine below_wov ?_ ?_ _) | (with_reducible refine below_drewN ?_ _) | (with_reducible refine Below.drew ?_) | (with_reducible refine Below.alloc ?_ ?_ _) | (with_reducible refine Below.setCell ?_ ?_ _) | (with_reducible exact Nat.le_refl _) | omega | (simp only [World.size_alloc, World.size_setCell, World.size_drew, Wov_size, World.heap_drewN]; omega))), m3_0.below (by (repeat' (first | (with_reducible assumption) | (with_reducible exact Below.refl _ _) | (with_reducible refine below_wov ?_ ?_ _) | (with_reducible refine below_drewN ?_ _) | (with_reducible refine Below.drew ?_) | (with_reducible refine Below.alloc ?_ ?_ _) | (with_reducible refine Below.setCell ?_ ?_ _) | (with_reducible exact Nat.le_refl _) | omega | (simp only [World.size_alloc, World.size_setCell, World.size_drew, Wov_size, World.heap_drewN]; omega)))), m3_1.below (by (repeat' (first | (with_reducible assumption) | (with_reducible exact Below.refl _ _) | (with_reducible refine below_wov ?_ ?_ _) | (with_reducible refine below_drewN ?_ _) | (with_reducible refine Below.drew ?_) | (with_reducible refine Below.alloc ?_ ?_ _) | (with_reducible refine Below.setCell ?_ ?_ _) | (with_reducible exact Nat.le_refl _) | omega | (simp only [World.size_alloc, World.size_setCell, World.size_drew, Wov_size, World.heap_drewN]; omega)))), m3_2.below (by (repeat' (first | (with_reducible assumption) | (with_reducible exact Below.refl _ _) | (with_reducible refine below_wov ?_ ?_ _) | (with_reducible refine below_drewN ?_ _) | (with_reducible refine Below.drew ?_) | (with_reducible refine Below.alloc ?_ ?_ _) | (with_reducible refine Below.setCell ?_ ?_ _) | (with_reducible exact Nat.le_refl _) | omega | (simp only [World.size_alloc, World.size_setCell, World.size_drew, Wov_size, World.heap_drewN]; omega)))), m3_3.below (by (repeat' (first | (with_reducible assumption) | (with_reducible exact Below.refl _ _) | (with_reducible refine below_wov ?_ ?_ _) | (with_reducible refine below_drewN ?_ _) | (with_reducible refine Below.drew ?_) | (with_reducible refine Below.alloc ?_ ?_ _) | (with_reducible refine Below.setCell ?_ ?_ _) | (with_reducible exact Nat.le_refl _) | omega | (simp only [World.size_alloc, World.size_setCell, World.size_drew, Wov_size, World.heap_drewN]; omega)))), BoxZ.new (by rw [← hAy]; (try simp only [Wov_size]))⟩ ?_
        rintro W4 ⟨hb4, m4_0, m4_1, m4_2, m4_3, m4_4⟩
        clear hb3 f3_0_lt f3_0_c0 f3_0_c1 f3_0_c2 f3_0_c3 f3_0_c4 f3_0_c5 f3_1_lt f3_1_c0 f3_1_c1 f3_1_c2 f3_1_c3 f3_1_c4 f3_1_c5 f3_2_lt f3_2_c0 f3_2_c1 f3_2_c2 f3_2_c3 f3_2_c4 f3_2_c5 f3_3_lt f3_3_c0 f3_3_c1 f3_3_c2 f3_3_c3 f3_3_c4 f3_3_c5 m3_0 m3_1 m3_2 m3_3 hs3
        have hs4 := hb4.size
        have f4_0_lt := m4_0.lt
        have f4_0_c0 := m4_0.c0
        have f4_0_c1 := m4_0.c1
        have f4_0_c2 := m4_0.c2
        have f4_0_c3 := m4_0.c3
        have f4_0_c4 := m4_0.c4
        have f4_0_c5 := m4_0.c5
        have f4_1_lt := m4_1.lt
        have f4_1_c0 := m4_1.c0
        have f4_1_c1 := m4_1.c1
        have f4_1_c2 := m4_1.c2
        have f4_1_c3 := m4_1.c3
        have f4_1_c4 := m4_1.c4
        have f4_1_c5 := m4_1.c5
        have f4_2_lt := m4_2.lt
        have f4_2_c0 := m4_2.c0
        have f4_2_c1 := m4_2.c1
        have f4_2_c2 := m4_2.c2
        have f4_2_c3 := m4_2.c3
        have f4_2_c4 := m4_2.c4
        have f4_2_c5 := m4_2.c5
        have f4_3_lt := m4_3.lt
        have f4_3_c0 := m4_3.c0
        have f4_3_c1 := m4_3.c1
        have f4_3_c2 := m4_3.c2
        have f4_3_c3 := m4_3.c3
        have f4_3_c4 := m4_3.c4
        have f4_3_c5 := m4_3.c5
        have f4_4_lt := m4_4.lt
        have f4_4_c0 := m4_4.c0
        have f4_4_c1 := m4_4.c1
        have f4_4_c2 := m4_4.c2
        have f4_4_c3 := m4_4.c3
        have f4_4_c4 := m4_4.c4
        have f4_4_c5 := m4_4.c5
        clear hAy
        refine (Cp.out _).mono ?_; rintro e w' ⟨rfl, qp, rfl⟩
        go_wp2_with (fail)
        obtain ⟨Ap, hAp⟩ : ∃ A, W4.heap.size + qp.bl.size = A := ⟨_, rfl⟩
        rw [hAp]
        refine calls_world (fun W => Below w.heap.size w W ∧ BoxZ W w.heap.size a ∧ BoxZ W (w.heap.size + 1) b ∧ BoxZ W (w.heap.size + 2) c ∧ BoxZ W Ax rx ∧ BoxZ W Ap rp) ⟨by (repeat' (first | (with_reducible assumption) | (with_reducible exact Below.refl _ _) | (with_reducible refine below_wov ?_ ?_ _) | (with_reducible refine below_drewN ?_ _) | (with_reducible refine Below.drew ?_) | (with_reducible refine Below.alloc ?_ ?_ _) | (with_reducible refine Below.setCell ?_ ?_ _) | (with_reducible exact Nat.le_refl _) | omega | (simp only [World.size_alloc, World.size_setCell, World.size_drew, Wov_size, World.heap_drewN]; omega))), m4_0.below (by (repeat' (first | (with_reducible assumption) | (with_reducible exact Below.refl _ _) | (with_reducible refine below_wov ?_ ?_ _) | (with_reducible refine below_drewN ?_ _) | (with_reducible refine Below.drew ?_) | (with_reducible refine Below.alloc ?_ ?_ _) | (with_reducible refine Below.setCell ?_ ?_ _) | (with_reducible exact Nat.le_refl _) | omega | (simp only [World.size_alloc, World.size_setCell, World.size_drew, Wov_size, World.heap_drewN]; omega)))), m4_1.below (by (repeat' (first | (with_reducible assumption) | (with_reducible exact Below.refl _ _) | (with_reducible refine below_wov ?_ ?_ _) | (with_reducible refine below_drewN ?_ _) | (with_reducible refine Below.drew ?_) | (with_reducible refine Below.alloc ?_ ?_ _) | (with_reducible refine Below.setCell ?_ ?_ _) | (with_reducible exact Nat.le_refl _) | omega | (simp only [World.size_alloc, World.size_setCell, World.size_drew, Wov_size, World.heap_drewN]; omega)))), m4_2.below (by (repeat' (first | (with_reducible assumption) | (with_reducible exact Below.refl _ _) | (with_reducible refine below_wov ?_ ?_ _) | (with_reducible refine below_drewN ?_ _) | (with_reducible refine Below.drew ?_) | (with_reducible refine Below.alloc ?_ ?_ _) | (with_reducible refine Below.setCell ?_ ?_ _) | (with_reducible exact Nat.le_refl _) | omega | (simp only [World.size_alloc, World.size_setCell, World.size_drew, Wov_size, World.heap_drewN]; omega)))), m4_3.below (by (repeat' (first | (with_reducible assumption) | (with_reducible exact Below.refl _ _) | (with_reducible refine below_wov ?_ ?_ _) | (with_reducible refine below_drewN ?_ _) | (with_reducible refine Below.drew ?_) | (with_reducible refine Below.alloc ?_ ?_ _) | (with_reducible refine Below.setCell ?_ ?_ _) | (with_reducible exact Nat.le_refl _) | omega | (simp only [World.size_alloc, World.size_setCell, World.size_drew, Wov_size, World.heap_drewN]; omega)))), BoxZ.new (by rw [← hAp]; (try simp only [Wov_size]))⟩ ?_
        rintro W5 ⟨hb5, m5_0, m5_1, m5_2, m5_3, m5_4⟩
        clear hb4 f4_0_lt f4_0_c0 f4_0_c1 f4_0_c2 f4_0_c3 f4_0_c4 f4_0_c5 f4_1_lt f4_1_c0 f4_1_c1 f4_1_c2 f4_1_c3 f4_1_c4 f4_1_c5 f4_2_lt f4_2_c0 f4_2_c1 f4_2_c2 f4_2_c3 f4_2_c4 f4_2_c5 f4_3_lt f4_3_c0 f4_3_c1 f4_3_c2 f4_3_c3 f4_3_c4 f4_3_c5 f4_4_lt f4_4_c0 f4_4_c1 f4_4_c2 f4_4_c3 f4_4_c4 f4_4_c5 m4_0 m4_1 m4_2 m4_3 m4_4 hs4
        have hs5 := hb5.size
        have f5_0_lt := m5_0.lt
        have f5_0_c0 := m5_0.c0
        have f5_0_c1 := m5_0.c1
        have f5_0_c2 := m5_0.c2
        have f5_0_c3 := m5_0.c3
        have f5_0_c4 := m5_0.c4
        have f5_0_c5 := m5_0.c5
        have f5_1_lt := m5_1.lt
        have f5_1_c0 := m5_1.c0
        have f5_1_c1 := m5_1.c1
        have f5_1_c2 := m5_1.c2
        have f5_1_c3 := m5_1.c3
        have f5_1_c4 := m5_1.c4
        have f5_1_c5 := m5_1.c5
        have f5_2_lt := m5_2.lt
        have f5_2_c0 := m5_2.c0
        have f5_2_c1 := m5_2.c1
        have f5_2_c2 := m5_2.c2
        have f5_2_c3 := m5_2.c3
        have f5_2_c4 := m5_2.c4
        have f5_2_c5 := m5_2.c5
        have f5_3_lt := m5_3.lt
        have f5_3_c0 := m5_3.c0
        have f5_3_c1 := m5_3.c1
        have f5_3_c2 := m5_3.c2
        have f5_3_c3 := m5_3.c3
        have f5_3_c4 := m5_3.c4
        have f5_3_c5 := m5_3.c5
        have f5_4_lt := m5_4.lt
        have f5_4_c0 := m5_4.c0
        have f5_4_c1 := m5_4.c1
        have f5_4_c2 := m5_4.c2
        have f5_4_c3 := m5_4.c3
        have f5_4_c4 := m5_4.c4
        have f5_4_c5 := m5_4.c5
        clear hAp
        refine (Cq.out _).mono ?_; rintro e w' ⟨rfl, qq, rfl⟩
        go_wp2_with (fail)
        obtain ⟨Aq, hAq⟩ : ∃ A, W5.heap.size + qq.bl.size = A := ⟨_, rfl⟩
        rw [hAq]
        refine calls_world (fun W => Below w.heap.size w W ∧ BoxZ W w.heap.size a ∧ BoxZ W (w.heap.size + 1) b ∧ BoxZ W (w.heap.size + 2) c ∧ BoxZ W Ax rx ∧ BoxZ W Ap rp ∧ BoxZ W Aq rq) ⟨by (repeat' (first | (with_reducible assumption) | (with_reducible exact Below.refl _ _) | (with_reducible refine below_wov ?_ ?_ _) | (with_reducible refine below_drewN ?_ _) | (with_reducible refine Below.drew ?_) | (with_reducible refine Below.alloc ?_ ?_ _) | (with_reducible refine Below.setCell ?_ ?_ _) | (with_reducible exact Nat.le_refl _) | omega | (simp only [World.size_alloc, World.size_setCell, World.size_drew, Wov_size, World.heap_drewN]; omega))), m5_0.below (by (repeat' (first | (with_reducible assumption) | (with_reducible exact Below.refl _ _) | (with_reducible refine below_wov ?_ ?_ _) | (with_reducible refine below_drewN ?_ _) | (with_reducible refine Below.drew ?_) | (with_reducible refine Below.alloc ?_ ?_ _) | (with_reducible refine Below.setCell ?_ ?_ _) | (with_reducible exact Nat.le_refl _) | omega | (simp only [World.size_alloc, World.size_setCell, World.size_drew, Wov_size, World.heap_drewN]; omega)))), m5_1.below (by (repeat' (first | (with_reducible assumption) | (with_reducible exact Below.refl _ _) | (with_reducible refine below_wov ?_ ?_ _) | (with_reducible refine below_drewN ?_ _) | (with_reducible refine Below.drew ?_) | (with_reducible refine Below.alloc ?_ ?_ _) | (with_reducible refine Below.setCell ?_ ?_ _) | (with_reducible exact Nat.le_refl _) | omega | (simp only [World.size_alloc, World.size_setCell, World.size_drew, Wov_size, World.heap_drewN]; omega)))), m5_2.below (by (repeat' (first | (with_reducible assumption) | (with_reducible exact Below.refl _ _) | (with_reducible refine below_wov ?_ ?_ _) | (with_reducible refine below_drewN ?_ _) | (with_reducible refine Below.drew ?_) | (with_reducible refine Below.alloc ?_ ?_ _) | (with_reducible refine Below.setCell ?_ ?_ _) | (with_reducible exact Nat.le_refl _) | omega | (simp only [World.size_alloc, World.size_setCell, World.size_drew, Wov_size, World.heap_drewN]; omega)))), m5_3.below (by (repeat' (first | (with_reducible assumption) | (with_reducible exact Below.refl _ _) | (with_reducible refine below_wov ?_ ?_ _) | (with_reducible refine below_drewN ?_ _) | (with_reducible refine Below.drew ?_) | (with_reducible refine Below.alloc ?_ ?_ _) | (with_reducible refine Below.setCell ?_ ?_ _) | (with_reducible exact Nat.le_refl _) | omega | (simp only [World.size_alloc, World.size_setCell, World.size_drew, Wov_size, World.heap_drewN]; omega)))), m5_4.below (by (repeat' (first | (with_reducible assumption) | (with_reducible exact Below.refl _ _) | (with_reducible refine below_wov ?_ ?_ _) | (with_reducible refine below_drewN ?_ _) | (with_reducible refine Below.drew ?_) | (with_reducible refine Below.alloc ?_ ?_ _) | (with_reducible refine Below.setCell ?_ ?_ _) | (with_reducible exact Nat.le_refl _) | omega | (simp only [World.size_alloc, World.size_setCell, World.size_drew, Wov_size, World.heap_drewN]; omega)))), BoxZ.new (by rw [← hAq]; (try simp only [Wov_size]))⟩ ?_
        rintro W6 ⟨hb6, m6_0, m6_1, m6_2, m6_3, m6_4, m6_5⟩
        clear hb5 f5_0_lt f5_0_c0 f5_0_c1 f5_0_c2 f5_0_c3 f5_0_c4 f5_0_c5 f5_1_lt f5_1_c0 f5_1_c1 f5_1_c2 f5_1_c3 f5_1_c4 f5_1_c5 f5_2_lt f5_2_c0 f5_2_c1 f5_2_c2 f5_2_c3 f5_2_c4 f5_2_c5 f5_3_lt f5_3_c0 f5_3_c1 f5_3_c2 f5_3_c3 f5_3_c4 f5_3_c5 f5_4_lt f5_4_c0 f5_4_c1 f5_4_c2 f5_4_c3 f5_4_c4 f5_4_c5 m5_0 m5_1 m5_2 m5_3 m5_4 hs5
        have hs6 := hb6.size
        have f6_0_lt := m6_0.lt
        have f6_0_c0 := m6_0.c0
        have f6_0_c1 := m6_0.c1
        have f6_0_c2 := m6_0.c2
        have f6_0_c3 := m6_0.c3
        have f6_0_c4 := m6_0.c4
        have f6_0_c5 := m6_0.c5
        have f6_1_lt := m6_1.lt
        have f6_1_c0 := m6_1.c0
        have f6_1_c1 := m6_1.c1
        have f6_1_c2 := m6_1.c2
        have f6_1_c3 := m6_1.c3
        have f6_1_c4 := m6_1.c4
        have f6_1_c5 := m6_1.c5
        have f6_2_lt := m6_2.lt
        have f6_2_c0 := m6_2.c0
        have f6_2_c1 := m6_2.c1
        have f6_2_c2 := m6_2.c2
        have f6_2_c3 := m6_2.c3
        have f6_2_c4 := m6_2.c4
        have f6_2_c5 := m6_2.c5
        have f6_3_lt := m6_3.lt
        have f6_3_c0 := m6_3.c0
        have f6_3_c1 := m6_3.c1
        have f6_3_c2 := m6_3.c2
        have f6_3_c3 := m6_3.c3
        have f6_3_c4 := m6_3.c4
        have f6_3_c5 := m6_3.c5
        have f6_4_lt := m6_4.lt
        have f6_4_c0 := m6_4.c0
        have f6_4_c1 := m6_4.c1
        have f6_4_c2 := m6_4.c2
        have f6_4_c3 := m6_4.c3
        have f6_4_c4 := m6_4.c4
        have f6_4_c5 := m6_4.c5
        have f6_5_lt := m6_5.lt
        have f6_5_c0 := m6_5.c0
        have f6_5_c1 := m6_5.c1
        have f6_5_c2 := m6_5.c2
        have f6_5_c3 := m6_5.c3
        have f6_5_c4 := m6_5.c4
        have f6_5_c5 := m6_5.c5
        clear hAq
        refine (Co.out _).mono ?_; rintro e w' ⟨rfl, qo, rfl⟩
        go_wp2_with (fail)
        obtain ⟨Ao, hAo⟩ : ∃ A, W6.heap.size + qo.bl.size = A := ⟨_, rfl⟩
        rw [hAo]
        refine calls_world (fun W => Below w.heap.size w W ∧ BoxZ W w.heap.size a ∧ BoxZ W (w.heap.size + 1) b ∧ BoxZ W (w.heap.size + 2) c ∧ BoxZ W Ax rx ∧ BoxZ W Ap rp ∧ BoxZ W Aq rq ∧ BoxZ W Ao ro) ⟨by (repeat' (first | (with_reducible assumption) | (with_reducible exact Below.refl _ _) | (with_reducible refine below_wov ?_ ?_ _) | (with_reducible refine below_drewN ?_ _) | (with_reducible refine Below.drew ?_) | (with_reducible refine Below.alloc ?_ ?_ _) | (with_reducible refine Below.setCell ?_ ?_ _) | (with_reducible exact Nat.le_refl _) | omega | (simp only [World.size_alloc, World.size_setCell, World.size_drew, Wov_size, World.heap_drewN]; omega))), m6_0.below (by (repeat' (first | (with_reducible assumption) | (with_reducible exact Below.refl _ _) | (with_reducible refine below_wov ?_ ?_ _) | (with_reducible refine below_drewN ?_ _) | (with_reducible refine Below.drew ?_) | (with_reducible refine Below.alloc ?_ ?_ _) | (with_reducible refine Below.setCell ?_ ?_ _) | (with_reducible exact Nat.le_refl _) | omega | (simp only [World.size_alloc, World.size_setCell, World.size_drew, Wov_size, World.heap_drewN]; omega)))), m6_1.below (by (repeat' (first | (with_reducible assumption) | (with_reducible exact Below.refl _ _) | (with_reducible refine below_wov ?_ ?_ _) | (with_reducible refine below_drewN ?_ _) | (with_reducible refine Below.drew ?_) | (with_reducible refine Below.alloc ?_ ?_ _) | (with_reducible refine Below.setCell ?_ ?_ _) | (with_reducible exact Nat.le_refl _) | omega | (simp only [World.size_alloc, World.size_setCell, World.size_drew, Wov_size, World.heap_drewN]; omega)))), m6_2.below (by (repeat' (first | (with_reducible assumption) | (with_reducible exact Below.refl _ _) | (with_reducible refine below_wov ?_ ?_ _) | (with_reducible refine below_drewN ?_ _) | (with_reducible refine Below.drew ?_) | (with_reducible refine Below.alloc ?_ ?_ _) | (with_reducible refine Below.setCell ?_ ?_ _) | (with_reducible exact Nat.le_refl _) | omega | (simp only [World.size_alloc, World.size_setCell, World.size_drew, Wov_size, World.heap_drewN]; omega)))), m6_3.below (by (repeat' (first | (with_reducible assumption) | (with_reducible exact Below.refl _ _) | (with_reducible refine below_wov ?_ ?_ _) | (with_reducible refine below_drewN ?_ _) | (with_reducible refine Below.drew ?_) | (with_reducible refine Below.alloc ?_ ?_ _) | (with_reducible refine Below.setCell ?_ ?_ _) | (with_reducible exact Nat.le_refl _) | omega | (simp only [World.size_alloc, World.size_setCell, World.size_drew, Wov_size, World.heap_drewN]; omega)))), m6_4.below (by (repeat' (first | (with_reducible assumption) | (with_reducible exact Below.refl _ _) | (with_reducible refine below_wov ?_ ?_ _) | (with_reducible refine below_drewN ?_ _) | (with_reducible refine Below.drew ?_) | (with_reducible refine Below.alloc ?_ ?_ _) | (with_reducible refine Below.setCell ?_ ?_ _) | (with_reducible exact Nat.le_refl _) | omega | (simp only [World.size_alloc, World.size_setCell, World.size_drew, Wov_size, World.heap_drewN]; omega)))), m6_5.below (by (repeat' (first | (with_reducible assumption) | (with_reducible exact Below.refl _ _) | (with_reducible refine below_wov ?_ ?_ _) | (with_reducible refine below_drewN ?_ _) | (with_reducible refine Below.drew ?_) | (with_reducible refine Below.alloc ?_ ?_ _) | (with_reducible refine Below.setCell ?_ ?_ _) | (with_reducible exact Nat.le_refl _) | omega | (simp only [World.size_alloc, World.size_setCell, World.size_drew, Wov_size, World.heap_drewN]; omega)))), BoxZ.new (by rw [← hAo]; (try simp only [Wov_size]))⟩ ?_
        rintro W7 ⟨hb7, m7_0, m7_1, m7_2, m7_3, m7_4, m7_5, m7_6⟩
        clear hb6 f6_0_lt f6_0_c0 f6_0_c1 f6_0_c2 f6_0_c3 f6_0_c4 f6_0_c5 f6_1_lt f6_1_c0 f6_1_c1 f6_1_c2 f6_1_c3 f6_1_c4 f6_1_c5 f6_2_lt f6_2_c0 f6_2_c1 f6_2_c2 f6_2_c3 f6_2_c4 f6_2_c5 f6_3_lt f6_3_c0 f6_3_c1 f6_3_c2 f6_3_c3 f6_3_c4 f6_3_c5 f6_4_lt f6_4_c0 f6_4_c1 f6_4_c2 f6_4_c3 f6_4_c4 f6_4_c5 f6_5_lt f6_5_c0 f6_5_c1 f6_5_c2 f6_5_c3 f6_5_c4 f6_5_c5 m6_0 m6_1 m6_2 m6_3 m6_4 m6_5 hs6
        have hs7 := hb7.size
        have f7_0_lt := m7_0.lt
        have f7_0_c0 := m7_0.c0
        have f7_0_c1 := m7_0.c1
        have f7_0_c2 := m7_0.c2
        have f7_0_c3 := m7_0.c3
        have f7_0_c4 := m7_0.c4
        have f7_0_c5 := m7_0.c5
        have f7_1_lt := m7_1.lt
        have f7_1_c0 := m7_1.c0
        have f7_1_c1 := m7_1.c1
        have f7_1_c2 := m7_1.c2
        have f7_1_c3 := m7_1.c3
        have f7_1_c4 := m7_1.c4
        have f7_1_c5 := m7_1.c5
        have f7_2_lt := m7_2.lt
        have f7_2_c0 := m7_2.c0
        have f7_2_c1 := m7_2.c1
        have f7_2_c2 := m7_2.c2
        have f7_2_c3 := m7_2.c3
        have f7_2_c4 := m7_2.c4
        have f7_2_c5 := m7_2.c5
        have f7_3_lt := m7_3.lt
        have f7_3_c0 := m7_3.c0
        have f7_3_c1 := m7_3.c1
        have f7_3_c2 := m7_3.c2
        have f7_3_c3 := m7_3.c3
        have f7_3_c4 := m7_3.c4
        have f7_3_c5 := m7_3.c5
        have f7_4_lt := m7_4.lt
        have f7_4_c0 := m7_4.c0
        have f7_4_c1 := m7_4.c1
        have f7_4_c2 := m7_4.c2
        have f7_4_c3 := m7_4.c3
        have f7_4_c4 := m7_4.c4
        have f7_4_c5 := m7_4.c5
        have f7_5_lt := m7_5.lt
        have f7_5_c0 := m7_5.c0
        have f7_5_c1 := m7_5.c1
        have f7_5_c2 := m7_5.c2
        have f7_5_c3 := m7_5.c3
        have f7_5_c4 := m7_5.c4
        have f7_5_c5 := m7_5.c5
        have f7_6_lt := m7_6.lt
        have f7_6_c0 := m7_6.c0
        have f7_6_c1 := m7_6.c1
        have f7_6_c2 := m7_6.c2
        have f7_6_c3 := m7_6.c3
        have f7_6_c4 := m7_6.c4
        have f7_6_c5 := m7_6.c5
        clear hAo
        refine (Cr.out _).mono ?_; rintro e w' ⟨rfl, qr, rfl⟩
        clear Cp Cq Co Cr
        obtain ⟨s, HS1, HS2⟩ := HS.out (by simp)
        have HS1 := Lib.hid HS1
        go_wp2_with (fail)
        obtain ⟨Ar, hAr⟩ : ∃ A, W7.heap.size + qr.bl.size = A := ⟨_, rfl⟩
        rw [hAr]
        refine calls_world (fun W => Below w.heap.size w W ∧ BoxZ W w.heap.size a ∧ BoxZ W (w.heap.size + 1) b ∧ BoxZ W (w.heap.size + 2) c ∧ BoxZ W Ax rx ∧ BoxZ W Ao ro ∧ BoxZ W Ar rr) ⟨by (repeat' (first | (with_reducible assumption) | (with_reducible exact Below.refl _ _) | (with_reducible refine below_wov ?_ ?_ _) | (with_reducible refine below_drewN ?_ _) | (with_reducible refine Below.drew ?_) | (with_reducible refine Below.alloc ?_ ?_ _) | (with_reducible refine Below.setCell ?_ ?_ _) | (with_reducible exact Nat.le_refl _) | omega | (simp only [World.size_alloc, World.size_setCell, World.size_drew, Wov_size, World.heap_drewN]; omega))), m7_0.below (by (repeat' (first | (with_reducible assumption) | (with_reducible exact Below.refl _ _) | (with_reducible refine below_wov ?_ ?_ _) | (with_reducible refine below_drewN ?_ _) | (with_reducible refine Below.drew ?_) | (with_reducible refine Below.alloc ?_ ?_ _) | (with_reducible refine Below.setCell ?_ ?_ _) | (with_reducible exact Nat.le_refl _) | omega | (simp only [World.size_alloc, World.size_setCell, World.size_drew, Wov_size, World.heap_drewN]; omega)))), m7_1.below (by (repeat' (first | (with_reducible assumption) | (with_reducible exact Below.refl _ _) | (with_reducible refine below_wov ?_ ?_ _) | (with_reducible refine below_drewN ?_ _) | (with_reducible refine Below.drew ?_) | (with_reducible refine Below.alloc ?_ ?_ _) | (with_reducible refine Below.setCell ?_ ?_ _) | (with_reducible exact Nat.le_refl _) | omega | (simp only [World.size_alloc, World.size_setCell, World.size_drew, Wov_size, World.heap_drewN]; omega)))), m7_2.below (by (repeat' (first | (with_reducible assumption) | (with_reducible exact Below.refl _ _) | (with_reducible refine below_wov ?_ ?_ _) | (with_reducible refine below_drewN ?_ _) | (with_reducible refine Below.drew ?_) | (with_reducible refine Below.alloc ?_ ?_ _) | (with_reducible refine Below.setCell ?_ ?_ _) | (with_reducible exact Nat.le_refl _) | omega | (simp only [World.size_alloc, World.size_setCell, World.size_drew, Wov_size, World.heap_drewN]; omega)))), m7_3.below (by (repeat' (first | (with_reducible assumption) | (with_reducible exact Below.refl _ _) | (with_reducible refine below_wov ?_ ?_ _) | (with_reducible refine below_drewN ?_ _) | (with_reducible refine Below.drew ?_) | (with_reducible refine Below.alloc ?_ ?_ _) | (with_reducible refine Below.setCell ?_ ?_ _) | (with_reducible exact Nat.le_refl _) | omega | (simp only [World.size_alloc, World.size_setCell, World.size_drew, Wov_size, World.heap_drewN]; omega)))), m7_6.below (by (repeat' (first | (with_reducible assumption) | (with_reducible exact Below.refl _ _) | (with_reducible refine below_wov ?_ ?_ _) | (with_reducible refine below_drewN ?_ _) | (with_reducible refine Below.drew ?_) | (with_reducible refine Below.alloc ?_ ?_ _) | (with_reducible refine Below.setCell ?_ ?_ _) | (with_reducible exact Nat.le_refl _) | omega | (simp only [World.size_alloc, World.size_setCell, World.size_drew, Wov_size, World.heap_drewN]; omega)))), BoxZ.new (by rw [← hAr]; (try simp only [Wov_size]))⟩ ?_
        rintro W8 ⟨hb8, m8_0, m8_1, m8_2, m8_3, m8_4, m8_5⟩
        clear hb7 f7_0_lt f7_0_c0 f7_0_c1 f7_0_c2 f7_0_c3 f7_0_c4 f7_0_c5 f7_1_lt f7_1_c0 f7_1_c1 f7_1_c2 f7_1_c3 f7_1_c4 f7_1_c5 f7_2_lt f7_2_c0 f7_2_c1 f7_2_c2 f7_2_c3 f7_2_c4 f7_2_c5 f7_3_lt f7_3_c0 f7_3_c1 f7_3_c2 f7_3_c3 f7_3_c4 f7_3_c5 f7_4_lt f7_4_c0 f7_4_c1 f7_4_c2 f7_4_c3 f7_4_c4 f7_4_c5 f7_5_lt f7_5_c0 f7_5_c1 f7_5_c2 f7_5_c3 f7_5_c4 f7_5_c5 f7_6_lt f7_6_c0 f7_6_c1 f7_6_c2 f7_6_c3 f7_6_c4 f7_6_c5 m7_0 m7_1 m7_2 m7_3 m7_4 m7_5 m7_6 hs7
        have hs8 := hb8.size
        have f8_0_lt := m8_0.lt
        have f8_0_c0 := m8_0.c0
        have f8_0_c1 := m8_0.c1
        have f8_0_c2 := m8_0.c2
        have f8_0_c3 := m8_0.c3
        have f8_0_c4 := m8_0.c4
        have f8_0_c5 := m8_0.c5
        have f8_1_lt := m8_1.lt
        have f8_1_c0 := m8_1.c0
        have f8_1_c1 := m8_1.c1
        have f8_1_c2 := m8_1.c2
        have f8_1_c3 := m8_1.c3
        have f8_1_c4 := m8_1.c4
        have f8_1_c5 := m8_1.c5
        have f8_2_lt := m8_2.lt
        have f8_2_c0 := m8_2.c0
        have f8_2_c1 := m8_2.c1
        have f8_2_c2 := m8_2.c2
        have f8_2_c3 := m8_2.c3
        have f8_2_c4 := m8_2.c4
        have f8_2_c5 := m8_2.c5
        have f8_3_lt := m8_3.lt
        have f8_3_c0 := m8_3.c0
        have f8_3_c1 := m8_3.c1
        have f8_3_c2 := m8_3.c2
        have f8_3_c3 := m8_3.c3
        have f8_3_c4 := m8_3.c4
        have f8_3_c5 := m8_3.c5
        have f8_4_lt := m8_4.lt
        have f8_4_c0 := m8_4.c0
        have f8_4_c1 := m8_4.c1
        have f8_4_c2 := m8_4.c2
        have f8_4_c3 := m8_4.c3
        have f8_4_c4 := m8_4.c4
        have f8_4_c5 := m8_4.c5
        have f8_5_lt := m8_5.lt
        have f8_5_c0 := m8_5.c0
        have f8_5_c1 := m8_5.c1
        have f8_5_c2 := m8_5.c2
        have f8_5_c3 := m8_5.c3
        have f8_5_c4 := m8_5.c4
        have f8_5_c5 := m8_5.c5
        clear hAr
        refine (HS1.out _).mono ?_; rintro e w' ⟨rfl, qs, rfl⟩
        go_wp2_with (fail)
        obtain ⟨As, hAs⟩ : ∃ A, W8.heap.size + qs.bl.size = A := ⟨_, rfl⟩
        rw [hAs]
        refine calls_world (fun W => Below w.heap.size w W ∧ BoxZ W w.heap.size a ∧ BoxZ W (w.heap.size + 1) b ∧ BoxZ W (w.heap.size + 2) c ∧ BoxZ W Ax rx ∧ BoxZ W Ar rr ∧ BoxZ W As s) ⟨by (repeat' (first | (with_reducible assumption) | (with_reducible exact Below.refl _ _) | (with_reducible refine below_wov ?_ ?_ _) | (with_reducible refine below_drewN ?_ _) | (with_reducible refine Below.drew ?_) | (with_reducible refine Below.alloc ?_ ?_ _) | (with_reducible refine Below.setCell ?_ ?_ _) | (with_reducible exact Nat.le_refl _) | omega | (simp only [World.size_alloc, World.size_setCell, World.size_drew, Wov_size, World.heap_drewN]; omega))), m8_0.below (by (repeat' (first | (with_reducible assumption) | (with_reducible exact Below.refl _ _) | (with_reducible refine below_wov ?_ ?_ _) | (with_reducible refine below_drewN ?_ _) | (with_reducible refine Below.drew ?_) | (with_reducible refine Below.alloc ?_ ?_ _) | (with_reducible refine Below.setCell ?_ ?_ _) | (with_reducible exact Nat.le_refl _) | omega | (simp only [World.size_alloc, World.size_setCell, World.size_drew, Wov_size, World.heap_drewN]; omega)))), m8_1.below (by (repeat' (first | (with_reducible assumption) | (with_reducible exact Below.refl _ _) | (with_reducible refine below_wov ?_ ?_ _) | (with_reducible refine below_drewN ?_ _) | (with_reducible refine Below.drew ?_) | (with_reducible refine Below.alloc ?_ ?_ _) | (with_reducible refine Below.setCell ?_ ?_ _) | (with_reducible exact Nat.le_refl _) | omega | (simp only [World.size_alloc, World.size_setCell, World.size_drew, Wov_size, World.heap_drewN]; omega)))), m8_2.below (by (repeat' (first | (with_reducible assumption) | (with_reducible exact Below.refl _ _) | (with_reducible refine below_wov ?_ ?_ _) | (with_reducible refine below_drewN ?_ _) | (with_reducible refine Below.drew ?_) | (with_reducible refine Below.alloc ?_ ?_ _) | (with_reducible refine Below.setCell ?_ ?_ _) | (with_reducible exact Nat.le_refl _) | omega | (simp only [World.size_alloc, World.size_setCell, World.size_drew, Wov_size, World.heap_drewN]; omega)))), m8_3.below (by (repeat' (first | (with_reducible assumption) | (with_reducible exact Below.refl _ _) | (with_reducible refine below_wov ?_ ?_ _) | (with_reducible refine below_drewN ?_ _) | (with_reducible refine Below.drew ?_) | (with_reducible refine Below.alloc ?_ ?_ _) | (with_reducible refine Below.setCell ?_ ?_ _) | (with_reducible exact Nat.le_refl _) | omega | (simp only [World.size_alloc, World.size_setCell, World.size_drew, Wov_size, World.heap_drewN]; omega)))), m8_5.below (by (repeat' (first | (with_reducible assumption) | (with_reducible exact Below.refl _ _) | (with_reducible refine below_wov ?_ ?_ _) | (with_reducible refine below_drewN ?_ _) | (with_reducible refine Below.drew ?_) | (with_reducible refine Below.alloc ?_ ?_ _) | (with_reducible refine Below.setCell ?_ ?_ _) | (with_reducible exact Nat.le_refl _) | omega | (simp only [World.size_alloc, World.size_setCell, World.size_drew, Wov_size, World.heap_drewN]; omega)))), BoxZ.new (by rw [← hAs]; (try simp only [Wov_size]))⟩ ?_
        rintro W9 ⟨hb9, m9_0, m9_1, m9_2, m9_3, m9_4, m9_5⟩
        clear hb8 f8_0_lt f8_0_c0 f8_0_c1 f8_0_c2 f8_0_c3 f8_0_c4 f8_0_c5 f8_1_lt f8_1_c0 f8_1_c1 f8_1_c2 f8_1_c3 f8_1_c4 f8_1_c5 f8_2_lt f8_2_c0 f8_2_c1 f8_2_c2 f8_2_c3 f8_2_c4 f8_2_c5 f8_3_lt f8_3_c0 f8_3_c1 f8_3_c2 f8_3_c3 f8_3_c4 f8_3_c5 f8_4_lt f8_4_c0 f8_4_c1 f8_4_c2 f8_4_c3 f8_4_c4 f8_4_c5 f8_5_lt f8_5_c0 f8_5_c1 f8_5_c2 f8_5_c3 f8_5_c4 f8_5_c5 m8_0 m8_1 m8_2 m8_3 m8_4 m8_5 hs8
        have hs9 := hb9.size
        have f9_0_lt := m9_0.lt
        have f9_0_c0 := m9_0.c0
        have f9_0_c1 := m9_0.c1
        have f9_0_c2 := m9_0.c2
        have f9_0_c3 := m9_0.c3
        have f9_0_c4 := m9_0.c4
        have f9_0_c5 := m9_0.c5
        have f9_1_lt := m9_1.lt
        have f9_1_c0 := m9_1.c0
        have f9_1_c1 := m9_1.c1
        have f9_1_c2 := m9_1.c2
        have f9_1_c3 := m9_1.c3
        have f9_1_c4 := m9_1.c4
        have f9_1_c5 := m9_1.c5
        have f9_2_lt := m9_2.lt
        have f9_2_c0 := m9_2.c0
        have f9_2_c1 := m9_2.c1
        have f9_2_c2 := m9_2.c2
        have f9_2_c3 := m9_2.c3
        have f9_2_c4 := m9_2.c4
        have f9_2_c5 := m9_2.c5
        have f9_3_lt := m9_3.lt
        have f9_3_c0 := m9_3.c0
        have f9_3_c1 := m9_3.c1
        have f9_3_c2 := m9_3.c2
        have f9_3_c3 := m9_3.c3
        have f9_3_c4 := m9_3.c4
        have f9_3_c5 := m9_3.c5
        have f9_4_lt := m9_4.lt
        have f9_4_c0 := m9_4.c0
        have f9_4_c1 := m9_4.c1
        have f9_4_c2 := m9_4.c2
        have f9_4_c3 := m9_4.c3
        have f9_4_c4 := m9_4.c4
        have f9_4_c5 := m9_4.c5
        have f9_5_lt := m9_5.lt
        have f9_5_c0 := m9_5.c0
        have f9_5_c1 := m9_5.c1
        have f9_5_c2 := m9_5.c2
        have f9_5_c3 := m9_5.c3
        have f9_5_c4 := m9_5.c4
        have f9_5_c5 := m9_5.c5
        clear hAs
        clear HS1 HS
        refine (Cl.out _).mono ?_; rintro e w' ⟨rfl, ql, rfl⟩
        by_cases hl0 : el = 0
        · skip
          subst hl0
          obtain ⟨m, em, he, M1, M2⟩ := HM.out (by simp)
          have M1 := Lib.hid M1
          have M2 := Lib.hid M2
          clear HM Cl
          go_wp2_with (fail)
          obtain ⟨Al, hAl⟩ : ∃ A, W9.heap.size + ql.bl.size = A := ⟨_, rfl⟩
          rw [hAl]
          refine calls_world (fun W => Below w.heap.size w W ∧ BoxZ W (w.heap.size + 1) b ∧ BoxZ W Ax rx ∧ BoxZ W Al rl) ⟨by (repeat' (first | (with_reducible assumption) | (with_reducible exact Below.refl _ _) | (with_reducible refine below_wov ?_ ?_ _) | (with_reducible refine below_drewN ?_ _) | (with_reducible refine Below.drew ?_) | (with_reducible refine Below.alloc ?_ ?_ _) | (with_reducible refine Below.setCell ?_ ?_ _) | (with_reducible exact Nat.le_refl _) | omega | (simp only [World.size_alloc, World.size_setCell, World.size_drew, Wov_size, World.heap_drewN]; omega))), m9_1.below (by (repeat' (first | (with_reducible assumption) | (with_reducible exact Below.refl _ _) | (with_reducible refine below_wov ?_ ?_ _) | (with_reducible refine below_drewN ?_ _) | (with_reducible refine Below.drew ?_) | (with_reducible refine Below.alloc ?_ ?_ _) | (with_reducible refine Below.setCell ?_ ?_ _) | (with_reducible exact Nat.le_refl _) | omega | (simp only [World.size_alloc, World.size_setCell, World.size_drew, Wov_size, World.heap_drewN]; omega)))), m9_3.below (by (repeat' (first | (with_reducible assumption) | (with_reducible exact Below.refl _ _) | (with_reducible refine below_wov ?_ ?_ _) | (with_reducible refine below_drewN ?_ _) | (with_reducible refine Below.drew ?_) | (with_reducible refine Below.alloc ?_ ?_ _) | (with_reducible refine Below.setCell ?_ ?_ _) | (with_reducible exact Nat.le_refl _) | omega | (simp only [World.size_alloc, World.size_setCell, World.size_drew, Wov_size, World.heap_drewN]; omega)))), BoxZ.new (by rw [← hAl]; (try simp only [Wov_size]))⟩ ?_
          rintro W10 ⟨hb10, m10_0, m10_1, m10_2⟩
          clear hb9 f9_0_lt f9_0_c0 f9_0_c1 f9_0_c2 f9_0_c3 f9_0_c4 f9_0_c5 f9_1_lt f9_1_c0 f9_1_c1 f9_1_c2 f9_1_c3 f9_1_c4 f9_1_c5 f9_2_lt f9_2_c0 f9_2_c1 f9_2_c2 f9_2_c3 f9_2_c4 f9_2_c5 f9_3_lt f9_3_c0 f9_3_c1 f9_3_c2 f9_3_c3 f9_3_c4 f9_3_c5 f9_4_lt f9_4_c0 f9_4_c1 f9_4_c2 f9_4_c3 f9_4_c4 f9_4_c5 f9_5_lt f9_5_c0 f9_5_c1 f9_5_c2 f9_5_c3 f9_5_c4 f9_5_c5 m9_0 m9_1 m9_2 m9_3 m9_4 m9_5 hs9
          have hs10 := hb10.size
          have f10_0_lt := m10_0.lt
          have f10_0_c0 := m10_0.c0
          have f10_0_c1 := m10_0.c1
          have f10_0_c2 := m10_0.c2
          have f10_0_c3 := m10_0.c3
          have f10_0_c4 := m10_0.c4
          have f10_0_c5 := m10_0.c5
          have f10_1_lt := m10_1.lt
          have f10_1_c0 := m10_1.c0
          have f10_1_c1 := m10_1.c1
          have f10_1_c2 := m10_1.c2
          have f10_1_c3 := m10_1.c3
          have f10_1_c4 := m10_1.c4
          have f10_1_c5 := m10_1.c5
          have f10_2_lt := m10_2.lt
          have f10_2_c0 := m10_2.c0
          have f10_2_c1 := m10_2.c1
          have f10_2_c2 := m10_2.c2
          have f10_2_c3 := m10_2.c3
          have f10_2_c4 := m10_2.c4
          have f10_2_c5 := m10_2.c5
          clear hAl
          refine (M1.out _).mono ?_; rintro e w' ⟨rfl, qm, rfl⟩
          by_cases hm0 : em = 0
          · skip
            subst hm0
            obtain ⟨k, ek, K1, K2⟩ := M2.out (by simp)
            have K1 := Lib.hid K1
            clear M1 M2 he
            obtain ⟨rfl, rfl⟩ := K2 (by simp)
            go_wp2_with (fail)
            obtain ⟨Am, hAm⟩ : ∃ A, W10.heap.size + qm.bl.size = A := ⟨_, rfl⟩
            rw [hAm]
            refine calls_world (fun W => Below w.heap.size w W ∧ BoxZ W Ax rx ∧ BoxZ W Am m) ⟨by (repeat' (first | (with_reducible assumption) | (with_reducible exact Below.refl _ _) | (with_reducible refine below_wov ?_ ?_ _) | (with_reducible refine below_drewN ?_ _) | (with_reducible refine Below.drew ?_) | (with_reducible refine Below.alloc ?_ ?_ _) | (with_reducible refine Below.setCell ?_ ?_ _) | (with_reducible exact Nat.le_refl _) | omega | (simp only [World.size_alloc, World.size_setCell, World.size_drew, Wov_size, World.heap_drewN]; omega))), m10_1.below (by (repeat' (first | (with_reducible assumption) | (with_reducible exact Below.refl _ _) | (with_reducible refine below_wov ?_ ?_ _) | (with_reducible refine below_drewN ?_ _) | (with_reducible refine Below.drew ?_) | (with_reducible refine Below.alloc ?_ ?_ _) | (with_reducible refine Below.setCell ?_ ?_ _) | (with_reducible exact Nat.le_refl _) | omega | (simp only [World.size_alloc, World.size_setCell, World.size_drew, Wov_size, World.heap_drewN]; omega)))), BoxZ.new (by rw [← hAm]; (try simp only [Wov_size]))⟩ ?_
            rintro W11 ⟨hb11, m11_0, m11_1⟩
            clear hb10 f10_0_lt f10_0_c0 f10_0_c1 f10_0_c2 f10_0_c3 f10_0_c4 f10_0_c5 f10_1_lt f10_1_c0 f10_1_c1 f10_1_c2 f10_1_c3 f10_1_c4 f10_1_c5 f10_2_lt f10_2_c0 f10_2_c1 f10_2_c2 f10_2_c3 f10_2_c4 f10_2_c5 m10_0 m10_1 m10_2 hs10
            have hs11 := hb11.size
            have f11_0_lt := m11_0.lt
            have f11_0_c0 := m11_0.c0
            have f11_0_c1 := m11_0.c1
            have f11_0_c2 := m11_0.c2
            have f11_0_c3 := m11_0.c3
            have f11_0_c4 := m11_0.c4
            have f11_0_c5 := m11_0.c5
            have f11_1_lt := m11_1.lt
            have f11_1_c0 := m11_1.c0
            have f11_1_c1 := m11_1.c1
            have f11_1_c2 := m11_1.c2
            have f11_1_c3 := m11_1.c3
            have f11_1_c4 := m11_1.c4
            have f11_1_c5 := m11_1.c5
            clear hAm
            refine (K1.out _).mono ?_; rintro e w' ⟨rfl, qk, rfl⟩
            clear K1
            go_wp2
            all_goals
              go_ret
              exact gives_bool (by simp) (by (repeat' (first | (with_reducible assumption) | (with_reducible exact Below.refl _ _) | (with_reducible refine below_wov ?_ ?_ _) | (with_reducible refine below_drewN ?_ _) | (with_reducible refine Below.drew ?_) | (with_reducible refine Below.alloc ?_ ?_ _) | (with_reducible refine Below.setCell ?_ ?_ _) | (with_reducible exact Nat.le_refl _) | omega | (simp only [World.size_alloc, World.size_setCell, World.size_drew, Wov_size, World.heap_drewN]; omega))))
          · skip
            clear M1 M2
            rcases he with he | rfl | rfl
            · exact absurd he hm0
            all_goals
              clear hm0
              go_wp2
              all_goals
                go_ret
                exact gives_bool (by simp) (by (repeat' (first | (with_reducible assumption) | (with_reducible exact Below.refl _ _) | (with_reducible refine below_wov ?_ ?_ _) | (with_reducible refine below_drewN ?_ _) | (with_reducible refine Below.drew ?_) | (with_reducible refine Below.alloc ?_ ?_ _) | (with_reducible refine Below.setCell ?_ ?_ _) | (with_reducible exact Nat.le_refl _) | omega | (simp only [World.size_alloc, World.size_setCell, World.size_drew, Wov_size, World.heap_drewN]; omega))))
        · skip
          have bl0 : (el != 0) = true := by rw [bne_iff_ne]; exact hl0
          clear HM Cl hl0
          go_wp2
          all_goals
            go_ret
            exact gives_bool (by simp) (by (repeat' (first | (with_reducible assumption) | (with_reducible exact Below.refl _ _) | (with_reducible refine below_wov ?_ ?_ _) | (with_reducible refine below_drewN ?_ _) | (with_reducible refine Below.drew ?_) | (with_reducible refine Below.alloc ?_ ?_ _) | (with_reducible refine Below.setCell ?_ ?_ _) | (with_reducible exact Nat.le_refl _) | omega | (simp only [World.size_alloc, World.size_setCell, World.size_drew, Wov_size, World.heap_drewN]; omega))))
    · skip
      have be0 : (er == 0) = false := by rw [beq_eq_false_iff_ne]; exact he0
      have be1 : (er != 0) = true := by rw [bne_iff_ne]; exact he0
      clear O1
      go_wp2_with (fail)
      obtain ⟨Ay, hAy⟩ : ∃ A, W3.heap.size + qy.bl.size = A := ⟨_, rfl⟩
      rw [hAy]
      refine calls_world (fun W => Below w.heap.size w W ∧ BoxZ W w.heap.size a ∧ BoxZ W (w.heap.size + 1) b ∧ BoxZ W (w.heap.size + 2) c ∧ BoxZ W Ax rx ∧ BoxZ W Ay ry) ⟨by (repeat' (first | (with_reducible assumption) | (with_reducible exact Below.refl _ _) | (with_reducible refine below_wov ?_ ?_ _) | (with_reducible refine below_drewN ?_ _) | (with_reducible refine Below.drew ?_) | (with_reducible refine Below.alloc ?_ ?_ _) | (with_reducible refine Below.setCell ?_ ?_ _) | (with_reducible exact Nat.le_refl _) | omega | (simp only [World.size_alloc, World.size_setCell, World.size_drew, Wov_size, World.heap_drewN]; omega))), m3_0.below (by (repeat' (first | (with_reducible assumption) | (with_reducible exact Below.refl _ _) | (with_reducible refine below_wov ?_ ?_ _) | (with_reducible refine below_drewN ?_ _) | (with_reducible refine Below.drew ?_) | (with_reducible refine Below.alloc ?_ ?_ _) | (with_reducible refine Below.setCell ?_ ?_ _) | (with_reducible exact Nat.le_refl _) | omega | (simp only [World.size_alloc, World.size_setCell, World.size_drew, Wov_size, World.heap_drewN]; omega)))), m3_1.below (by (repeat' (first | (with_reducible assumption) | (with_reducible exact Below.refl _ _) | (with_reducible refine below_wov ?_ ?_ _) | (with_reducible refine below_drewN ?_ _) | (with_reducible refine Below.drew ?_) | (with_reducible refine Below.alloc ?_ ?_ _) | (with_reducible refine Below.setCell ?_ ?_ _) | (with_reducible exact Nat.le_refl _) | omega | (simp only [World.size_alloc, World.size_setCell, World.size_drew, Wov_size, World.heap_drewN]; omega)))), m3_2.below (by (repeat' (first | (with_reducible assumption) | (with_reducible exact Below.refl _ _) | (with_reducible refine below_wov ?_ ?_ _) | (with_reducible refine below_drewN ?_ _) | (with_reducible refine Below.drew ?_) | (with_reducible refine Below.alloc ?_ ?_ _) | (with_reducible refine Below.setCell ?_ ?_ _) | (with_reducible exact Nat.le_refl _) | omega | (simp only [World.size_alloc, World.size_setCell, World.size_drew, Wov_size, World.heap_drewN]; omega)))), m3_3.below (by (repeat' (first | (with_reducible assumption) | (with_reducible exact Below.refl _ _) | (with_reducible refine below_wov ?_ ?_ _) | (with_reducible refine below_drewN ?_ _) | (with_reducible refine Below.drew ?_) | (with_reducible refine Below.alloc ?_ ?_ _) | (with_reducible refine Below.setCell ?_ ?_ _) | (with_reducible exact Nat.le_refl _) | omega | (simp only [World.size_alloc, World.size_setCell, World.size_drew, Wov_size, World.heap_drewN]; omega)))), BoxZ.new (by rw [← hAy]; (try simp only [Wov_size]))⟩ ?_
      rintro W4 ⟨hb4, m4_0, m4_1, m4_2, m4_3, m4_4⟩
      clear hb3 f3_0_lt f3_0_c0 f3_0_c1 f3_0_c2 f3_0_c3 f3_0_c4 f3_0_c5 f3_1_lt f3_1_c0 f3_1_c1 f3_1_c2 f3_1_c3 f3_1_c4 f3_1_c5 f3_2_lt f3_2_c0 f3_2_c1 f3_2_c2 f3_2_c3 f3_2_c4 f3_2_c5 f3_3_lt f3_3_c0 f3_3_c1 f3_3_c2 f3_3_c3 f3_3_c4 f3_3_c5 m3_0 m3_1 m3_2 m3_3 hs3
      have hs4 := hb4.size
      have f4_0_lt := m4_0.lt
      have f4_0_c0 := m4_0.c0
      have f4_0_c1 := m4_0.c1
      have f4_0_c2 := m4_0.c2
      have f4_0_c3 := m4_0.c3
      have f4_0_c4 := m4_0.c4
      have f4_0_c5 := m4_0.c5
      have f4_1_lt := m4_1.lt
      have f4_1_c0 := m4_1.c0
      have f4_1_c1 := m4_1.c1
      have f4_1_c2 := m4_1.c2
      have f4_1_c3 := m4_1.c3
      have f4_1_c4 := m4_1.c4
      have f4_1_c5 := m4_1.c5
      have f4_2_lt := m4_2.lt
      have f4_2_c0 := m4_2.c0
      have f4_2_c1 := m4_2.c1
      have f4_2_c2 := m4_2.c2
      have f4_2_c3 := m4_2.c3
      have f4_2_c4 := m4_2.c4
      have f4_2_c5 := m4_2.c5
      have f4_3_lt := m4_3.lt
      have f4_3_c0 := m4_3.c0
      have f4_3_c1 := m4_3.c1
      have f4_3_c2 := m4_3.c2
      have f4_3_c3 := m4_3.c3
      have f4_3_c4 := m4_3.c4
      have f4_3_c5 := m4_3.c5
      have f4_4_lt := m4_4.lt
      have f4_4_c0 := m4_4.c0
      have f4_4_c1 := m4_4.c1
      have f4_4_c2 := m4_4.c2
      have f4_4_c3 := m4_4.c3
      have f4_4_c4 := m4_4.c4
      have f4_4_c5 := m4_4.c5
      clear hAy
      refine (Cp.out _).mono ?_; rintro e w' ⟨rfl, qp, rfl⟩
      go_wp2_with (fail)
      obtain ⟨Ap, hAp⟩ : ∃ A, W4.heap.size + qp.bl.size = A := ⟨_, rfl⟩
      rw [hAp]
      refine calls_world (fun W => Below w.heap.size w W ∧ BoxZ W w.heap.size a ∧ BoxZ W (w.heap.size + 1) b ∧ BoxZ W (w.heap.size + 2) c ∧ BoxZ W Ax rx ∧ BoxZ W Ap rp) ⟨by (repeat' (first | (with_reducible assumption) | (with_reducible exact Below.refl _ _) | (with_reducible refine below_wov ?_ ?_ _) | (with_reducible refine below_drewN ?_ _) | (with_reducible refine Below.drew ?_) | (with_reducible refine Below.alloc ?_ ?_ _) | (with_reducible refine Below.setCell ?_ ?_ _) | (with_reducible exact Nat.le_refl _) | omega | (simp only [World.size_alloc, World.size_setCell, World.size_drew, Wov_size, World.heap_drewN]; omega))), m4_0.below (by (repeat' (first | (with_reducible assumption) | (with_reducible exact Below.refl _ _) | (with_reducible refine below_wov ?_ ?_ _) | (with_reducible refine below_drewN ?_ _) | (with_reducible refine Below.drew ?_) | (with_reducible refine Below.alloc ?_ ?_ _) | (with_reducible refine Below.setCell ?_ ?_ _) | (with_reducible exact Nat.le_refl _) | omega | (simp only [World.size_alloc, World.size_setCell, World.size_drew, Wov_size, World.heap_drewN]; omega)))), m4_1.below (by (repeat' (first | (with_reducible assumption) | (with_reducible exact Below.refl _ _) | (with_reducible refine below_wov ?_ ?_ _) | (with_reducible refine below_drewN ?_ _) | (with_reducible refine Below.drew ?_) | (with_reducible refine Below.alloc ?_ ?_ _) | (with_reducible refine Below.setCell ?_ ?_ _) | (with_reducible exact Nat.le_refl _) | omega | (simp only [World.size_alloc, World.size_setCell, World.size_drew, Wov_size, World.heap_drewN]; omega)))), m4_2.below (by (repeat' (first | (with_reducible assumption) | (with_reducible exact Below.refl _ _) | (with_reducible refine below_wov ?_ ?_ _) | (with_reducible refine below_drewN ?_ _) | (with_reducible refine Below.drew ?_) | (with_reducible refine Below.alloc ?_ ?_ _) | (with_reducible refine Below.setCell ?_ ?_ _) | (with_reducible exact Nat.le_refl _) | omega | (simp only [World.size_alloc, World.size_setCell, World.size_drew, Wov_size, World.heap_drewN]; omega)))), m4_3.below (by (repeat' (first | (with_reducible assumption) | (with_reducible exact Below.refl _ _) | (with_reducible refine below_wov ?_ ?_ _) | (with_reducible refine below_drewN ?_ _) | (with_reducible refine Below.drew ?_) | (with_reducible refine Below.alloc ?_ ?_ _) | (with_reducible refine Below.setCell ?_ ?_ _) | (with_reducible exact Nat.le_refl _) | omega | (simp only [World.size_alloc, World.size_setCell, World.size_drew, Wov_size, World.heap_drewN]; omega)))), BoxZ.new (by rw [← hAp]; (try simp only [Wov_size]))⟩ ?_
      rintro W5 ⟨hb5, m5_0, m5_1, m5_2, m5_3, m5_4⟩
      clear hb4 f4_0_lt f4_0_c0 f4_0_c1 f4_0_c2 f4_0_c3 f4_0_c4 f4_0_c5 f4_1_lt f4_1_c0 f4_1_c1 f4_1_c2 f4_1_c3 f4_1_c4 f4_1_c5 f4_2_lt f4_2_c0 f4_2_c1 f4_2_c2 f4_2_c3 f4_2_c4 f4_2_c5 f4_3_lt f4_3_c0 f4_3_c1 f4_3_c2 f4_3_c3 f4_3_c4 f4_3_c5 f4_4_lt f4_4_c0 f4_4_c1 f4_4_c2 f4_4_c3 f4_4_c4 f4_4_c5 m4_0 m4_1 m4_2 m4_3 m4_4 hs4
      have hs5 := hb5.size
      have f5_0_lt := m5_0.lt
      have f5_0_c0 := m5_0.c0
      have f5_0_c1 := m5_0.c1
      have f5_0_c2 := m5_0.c2
      have f5_0_c3 := m5_0.c3
      have f5_0_c4 := m5_0.c4
      have f5_0_c5 := m5_0.c5
      have f5_1_lt := m5_1.lt
      have f5_1_c0 := m5_1.c0
      have f5_1_c1 := m5_1.c1
      have f5_1_c2 := m5_1.c2
      have f5_1_c3 := m5_1.c3
      have f5_1_c4 := m5_1.c4
      have f5_1_c5 := m5_1.c5
      have f5_2_lt := m5_2.lt
      have f5_2_c0 := m5_2.c0
      have f5_2_c1 := m5_2.c1
      have f5_2_c2 := m5_2.c2
      have f5_2_c3 := m5_2.c3
      have f5_2_c4 := m5_2.c4
      have f5_2_c5 := m5_2.c5
      have f5_3_lt := m5_3.lt
      have f5_3_c0 := m5_3.c0
      have f5_3_c1 := m5_3.c1
      have f5_3_c2 := m5_3.c2
      have f5_3_c3 := m5_3.c3
      have f5_3_c4 := m5_3.c4
      have f5_3_c5 := m5_3.c5
      have f5_4_lt := m5_4.lt
      have f5_4_c0 := m5_4.c0
      have f5_4_c1 := m5_4.c1
      have f5_4_c2 := m5_4.c2
      have f5_4_c3 := m5_4.c3
      have f5_4_c4 := m5_4.c4
      have f5_4_c5 := m5_4.c5
      clear hAp
      refine (Cq.out _).mono ?_; rintro e w' ⟨rfl, qq, rfl⟩
      go_wp2_with (fail)
      obtain ⟨Aq, hAq⟩ : ∃ A, W5.heap.size + qq.bl.size = A := ⟨_, rfl⟩
      rw [hAq]
      refine calls_world (fun W => Below w.heap.size w W ∧ BoxZ W w.heap.size a ∧ BoxZ W (w.heap.size + 1) b ∧ BoxZ W (w.heap.size + 2) c ∧ BoxZ W Ax rx ∧ BoxZ W Ap rp ∧ BoxZ W Aq rq) ⟨by (repeat' (first | (with_reducible assumption) | (with_reducible exact Below.refl _ _) | (with_reducible refine below_wov ?_ ?_ _) | (with_reducible refine below_drewN ?_ _) | (with_reducible refine Below.drew ?_) | (with_reducible refine Below.alloc ?_ ?_ _) | (with_reducible refine Below.setCell ?_ ?_ _) | (with_reducible exact Nat.le_refl _) | omega | (simp only [World.size_alloc, World.size_setCell, World.size_drew, Wov_size, World.heap_drewN]; omega))), m5_0.below (by (repeat' (first | (with_reducible assumption) | (with_reducible exact Below.refl _ _) | (with_reducible refine below_wov ?_ ?_ _) | (with_reducible refine below_drewN ?_ _) | (with_reducible refine Below.drew ?_) | (with_reducible refine Below.alloc ?_ ?_ _) | (with_reducible refine Below.setCell ?_ ?_ _) | (with_reducible exact Nat.le_refl _) | omega | (simp only [World.size_alloc, World.size_setCell, World.size_drew, Wov_size, World.heap_drewN]; omega)))), m5_1.below (by (repeat' (first | (with_reducible assumption) | (with_reducible exact Below.refl _ _) | (with_reducible refine below_wov ?_ ?_ _) | (with_reducible refine below_drewN ?_ _) | (with_reducible refine Below.drew ?_) | (with_reducible refine Below.alloc ?_ ?_ _) | (with_reducible refine Below.setCell ?_ ?_ _) | (with_reducible exact Nat.le_refl _) | omega | (simp only [World.size_alloc, World.size_setCell, World.size_drew, Wov_size, World.heap_drewN]; omega)))), m5_2.below (by (repeat' (first | (with_reducible assumption) | (with_reducible exact Below.refl _ _) | (with_reducible refine below_wov ?_ ?_ _) | (with_reducible refine below_drewN ?_ _) | (with_reducible refine Below.drew ?_) | (with_reducible refine Below.alloc ?_ ?_ _) | (with_reducible refine Below.setCell ?_ ?_ _) | (with_reducible exact Nat.le_refl _) | omega | (simp only [World.size_alloc, World.size_setCell, World.size_drew, Wov_size, World.heap_drewN]; omega)))), m5_3.below (by (repeat' (first | (with_reducible assumption) | (with_reducible exact Below.refl _ _) | (with_reducible refine below_wov ?_ ?_ _) | (with_reducible refine below_drewN ?_ _) | (with_reducible refine Below.drew ?_) | (with_reducible refine Below.alloc ?_ ?_ _) | (with_reducible refine Below.setCell ?_ ?_ _) | (with_reducible exact Nat.le_refl _) | omega | (simp only [World.size_alloc, World.size_setCell, World.size_drew, Wov_size, World.heap_drewN]; omega)))), m5_4.below (by (repeat' (first | (with_reducible assumption) | (with_reducible exact Below.refl _ _) | (with_reducible refine below_wov ?_ ?_ _) | (with_reducible refine below_drewN ?_ _) | (with_reducible refine Below.drew ?_) | (with_reducible refine Below.alloc ?_ ?_ _) | (with_reducible refine Below.setCell ?_ ?_ _) | (with_reducible exact Nat.le_refl _) | omega | (simp only [World.size_alloc, World.size_setCell, World.size_drew, Wov_size, World.heap_drewN]; omega)))), BoxZ.new (by rw [← hAq]; (try simp only [Wov_size]))⟩ ?_
      rintro W6 ⟨hb6, m6_0, m6_1, m6_2, m6_3, m6_4, m6_5⟩
      clear hb5 f5_0_lt f5_0_c0 f5_0_c1 f5_0_c2 f5_0_c3 f5_0_c4 f5_0_c5 f5_1_lt f5_1_c0 f5_1_c1 f5_1_c2 f5_1_c3 f5_1_c4 f5_1_c5 f5_2_lt f5_2_c0 f5_2_c1 f5_2_c2 f5_2_c3 f5_2_c4 f5_2_c5 f5_3_lt f5_3_c0 f5_3_c1 f5_3_c2 f5_3_c3 f5_3_c4 f5_3_c5 f5_4_lt f5_4_c0 f5_4_c1 f5_4_c2 f5_4_c3 f5_4_c4 f5_4_c5 m5_0 m5_1 m5_2 m5_3 m5_4 hs5
      have hs6 := hb6.size
      have f6_0_lt := m6_0.lt
      have f6_0_c0 := m6_0.c0
      have f6_0_c1 := m6_0.c1
      have f6_0_c2 := m6_0.c2
      have f6_0_c3 := m6_0.c3
      have f6_0_c4 := m6_0.c4
      have f6_0_c5 := m6_0.c5
      have f6_1_lt := m6_1.lt
      have f6_1_c0 := m6_1.c0
      have f6_1_c1 := m6_1.c1
      have f6_1_c2 := m6_1.c2
      have f6_1_c3 := m6_1.c3
      have f6_1_c4 := m6_1.c4
      have f6_1_c5 := m6_1.c5
      have f6_2_lt := m6_2.lt
      have f6_2_c0 := m6_2.c0
      have f6_2_c1 := m6_2.c1
      have f6_2_c2 := m6_2.c2
      have f6_2_c3 := m6_2.c3
      have f6_2_c4 := m6_2.c4
      have f6_2_c5 := m6_2.c5
      have f6_3_lt := m6_3.lt
      have f6_3_c0 := m6_3.c0
      have f6_3_c1 := m6_3.c1
      have f6_3_c2 := m6_3.c2
      have f6_3_c3 := m6_3.c3
      have f6_3_c4 := m6_3.c4
      have f6_3_c5 := m6_3.c5
      have f6_4_lt := m6_4.lt
      have f6_4_c0 := m6_4.c0
      have f6_4_c1 := m6_4.c1
      have f6_4_c2 := m6_4.c2
      have f6_4_c3 := m6_4.c3
      have f6_4_c4 := m6_4.c4
      have f6_4_c5 := m6_4.c5
      have f6_5_lt := m6_5.lt
      have f6_5_c0 := m6_5.c0
      have f6_5_c1 := m6_5.c1
      have f6_5_c2 := m6_5.c2
      have f6_5_c3 := m6_5.c3
      have f6_5_c4 := m6_5.c4
      have f6_5_c5 := m6_5.c5
      clear hAq
      refine (Co.out _).mono ?_; rintro e w' ⟨rfl, qo, rfl⟩
      go_wp2_with (fail)
      obtain ⟨Ao, hAo⟩ : ∃ A, W6.heap.size + qo.bl.size = A := ⟨_, rfl⟩
      rw [hAo]
      refine calls_world (fun W => Below w.heap.size w W ∧ BoxZ W w.heap.size a ∧ BoxZ W (w.heap.size + 1) b ∧ BoxZ W (w.heap.size + 2) c ∧ BoxZ W Ax rx ∧ BoxZ W Ap rp ∧ BoxZ W Aq rq ∧ BoxZ W Ao ro) ⟨by (repeat' (first | (with_reducible assumption) | (with_reducible exact Below.refl _ _) | (with_reducible refine below_wov ?_ ?_ _) | (with_reducible refine below_drewN ?_ _) | (with_reducible refine Below.drew ?_) | (with_reducible refine Below.alloc ?_ ?_ _) | (with_reducible refine Below.setCell ?_ ?_ _) | (with_reducible exact Nat.le_refl _) | omega | (simp only [World.size_alloc, World.size_setCell, World.size_drew, Wov_size, World.heap_drewN]; omega))), m6_0.below (by (repeat' (first | (with_reducible assumption) | (with_reducible exact Below.refl _ _) | (with_reducible refine below_wov ?_ ?_ _) | (with_reducible refine below_drewN ?_ _) | (with_reducible refine Below.drew ?_) | (with_reducible refine Below.alloc ?_ ?_ _) | (with_reducible refine Below.setCell ?_ ?_ _) | (with_reducible exact Nat.le_refl _) | omega | (simp only [World.size_alloc, World.size_setCell, World.size_drew, Wov_size, World.heap_drewN]; omega)))), m6_1.below (by (repeat' (first | (with_reducible assumption) | (with_reducible exact Below.refl _ _) | (with_reducible refine below_wov ?_ ?_ _) | (with_reducible refine below_drewN ?_ _) | (with_reducible refine Below.drew ?_) | (with_reducible refine Below.alloc ?_ ?_ _) | (with_reducible refine Below.setCell ?_ ?_ _) | (with_reducible exact Nat.le_refl _) | omega | (simp only [World.size_alloc, World.size_setCell, World.size_drew, Wov_size, World.heap_drewN]; omega)))), m6_2.below (by (repeat' (first | (with_reducible assumption) | (with_reducible exact Below.refl _ _) | (with_reducible refine below_wov ?_ ?_ _) | (with_reducible refine below_drewN ?_ _) | (with_reducible refine Below.drew ?_) | (with_reducible refine Below.alloc ?_ ?_ _) | (with_reducible refine Below.setCell ?_ ?_ _) | (with_reducible exact Nat.le_refl _) | omega | (simp only [World.size_alloc, World.size_setCell, World.size_drew, Wov_size, World.heap_drewN]; omega)))), m6_3.below (by (repeat' (first | (with_reducible assumption) | (with_reducible exact Below.refl _ _) | (with_reducible refine below_wov ?_ ?_ _) | (with_reducible refine below_drewN ?_ _) | (with_reducible refine Below.drew ?_) | (with_reducible refine Below.alloc ?_ ?_ _) | (with_reducible refine Below.setCell ?_ ?_ _) | (with_reducible exact Nat.le_refl _) | omega | (simp only [World.size_alloc, World.size_setCell, World.size_drew, Wov_size, World.heap_drewN]; omega)))), m6_4.below (by (repeat' (first | (with_reducible assumption) | (with_reducible exact Below.refl _ _) | (with_reducible refine below_wov ?_ ?_ _) | (with_reducible refine below_drewN ?_ _) | (with_reducible refine Below.drew ?_) | (with_reducible refine Below.alloc ?_ ?_ _) | (with_reducible refine Below.setCell ?_ ?_ _) | (with_reducible exact Nat.le_refl _) | omega | (simp only [World.size_alloc, World.size_setCell, World.size_drew, Wov_size, World.heap_drewN]; omega)))), m6_5.below (by (repeat' (first | (with_reducible assumption) | (with_reducible exact Below.refl _ _) | (with_reducible refine below_wov ?_ ?_ _) | (with_reducible refine below_drewN ?_ _) | (with_reducible refine Below.drew ?_) | (with_reducible refine Below.alloc ?_ ?_ _) | (with_reducible refine Below.setCell ?_ ?_ _) | (with_reducible exact Nat.le_refl _) | omega | (simp only [World.size_alloc, World.size_setCell, World.size_drew, Wov_size, World.heap_drewN]; omega)))), BoxZ.new (by rw [← hAo]; (try simp only [Wov_size]))⟩ ?_
      rintro W7 ⟨hb7, m7_0, m7_1, m7_2, m7_3, m7_4, m7_5, m7_6⟩
      clear hb6 f6_0_lt f6_0_c0 f6_0_c1 f6_0_c2 f6_0_c3 f6_0_c4 f6_0_c5 f6_1_lt f6_1_c0 f6_1_c1 f6_1_c2 f6_1_c3 f6_1_c4 f6_1_c5 f6_2_lt f6_2_c0 f6_2_c1 f6_2_c2 f6_2_c3 f6_2_c4 f6_2_c5 f6_3_lt f6_3_c0 f6_3_c1 f6_3_c2 f6_3_c3 f6_3_c4 f6_3_c5 f6_4_lt f6_4_c0 f6_4_c1 f6_4_c2 f6_4_c3 f6_4_c4 f6_4_c5 f6_5_lt f6_5_c0 f6_5_c1 f6_5_c2 f6_5_c3 f6_5_c4 f6_5_c5 m6_0 m6_1 m6_2 m6_3 m6_4 m6_5 hs6
      have hs7 := hb7.size
      have f7_0_lt := m7_0.lt
      have f7_0_c0 := m7_0.c0
      have f7_0_c1 := m7_0.c1
      have f7_0_c2 := m7_0.c2
      have f7_0_c3 := m7_0.c3
      have f7_0_c4 := m7_0.c4
      have f7_0_c5 := m7_0.c5
      have f7_1_lt := m7_1.lt
      have f7_1_c0 := m7_1.c0
      have f7_1_c1 := m7_1.c1
      have f7_1_c2 := m7_1.c2
      have f7_1_c3 := m7_1.c3
      have f7_1_c4 := m7_1.c4
      have f7_1_c5 := m7_1.c5
      have f7_2_lt := m7_2.lt
      have f7_2_c0 := m7_2.c0
      have f7_2_c1 := m7_2.c1
      have f7_2_c2 := m7_2.c2
      have f7_2_c3 := m7_2.c3
      have f7_2_c4 := m7_2.c4
      have f7_2_c5 := m7_2.c5
      have f7_3_lt := m7_3.lt
      have f7_3_c0 := m7_3.c0
      have f7_3_c1 := m7_3.c1
      have f7_3_c2 := m7_3.c2
      have f7_3_c3 := m7_3.c3
      have f7_3_c4 := m7_3.c4
      have f7_3_c5 := m7_3.c5
      have f7_4_lt := m7_4.lt
      have f7_4_c0 := m7_4.c0
      have f7_4_c1 := m7_4.c1
      have f7_4_c2 := m7_4.c2
      have f7_4_c3 := m7_4.c3
      have f7_4_c4 := m7_4.c4
      have f7_4_c5 := m7_4.c5
      have f7_5_lt := m7_5.lt
      have f7_5_c0 := m7_5.c0
      have f7_5_c1 := m7_5.c1
      have f7_5_c2 := m7_5.c2
      have f7_5_c3 := m7_5.c3
      have f7_5_c4 := m7_5.c4
      have f7_5_c5 := m7_5.c5
      have f7_6_lt := m7_6.lt
      have f7_6_c0 := m7_6.c0
      have f7_6_c1 := m7_6.c1
      have f7_6_c2 := m7_6.c2
      have f7_6_c3 := m7_6.c3
      have f7_6_c4 := m7_6.c4
      have f7_6_c5 := m7_6.c5
      clear hAo
      refine (Cr.out _).mono ?_; rintro e w' ⟨rfl, qr, rfl⟩
      clear Cp Cq Co Cr
      clear HS
      go_wp2_with (fail)
      obtain ⟨Ar, hAr⟩ : ∃ A, W7.heap.size + qr.bl.size = A := ⟨_, rfl⟩
      rw [hAr]
      refine calls_world (fun W => Below w.heap.size w W ∧ BoxZ W w.heap.size a ∧ BoxZ W (w.heap.size + 1) b ∧ BoxZ W (w.heap.size + 2) c ∧ BoxZ W Ax rx ∧ BoxZ W Ao ro ∧ BoxZ W Ar rr) ⟨by (repeat' (first | (with_reducible assumption) | (with_reducible exact Below.refl _ _) | (with_reducible refine below_wov ?_ ?_ _) | (with_reducible refine below_drewN ?_ _) | (with_reducible refine Below.drew ?_) | (with_reducible refine Below.alloc ?_ ?_ _) | (with_reducible refine Below.setCell ?_ ?_ _) | (with_reducible exact Nat.le_refl _) | omega | (simp only [World.size_alloc, World.size_setCell, World.size_drew, Wov_size, World.heap_drewN]; omega))), m7_0.below (by (repeat' (first | (with_reducible assumption) | (with_reducible exact Below.refl _ _) | (with_reducible refine below_wov ?_ ?_ _) | (with_reducible refine below_drewN ?_ _) | (with_reducible refine Below.drew ?_) | (with_reducible refine Below.alloc ?_ ?_ _) | (with_reducible refine Below.setCell ?_ ?_ _) | (with_reducible exact Nat.le_refl _) | omega | (simp only [World.size_alloc, World.size_setCell, World.size_drew, Wov_size, World.heap_drewN]; omega)))), m7_1.below (by (repeat' (first | (with_reducible assumption) | (with_reducible exact Below.refl _ _) | (with_reducible refine below_wov ?_ ?_ _) | (with_reducible refine below_drewN ?_ _) | (with_reducible refine Below.drew ?_) | (with_reducible refine Below.alloc ?_ ?_ _) | (with_reducible refine Below.setCell ?_ ?_ _) | (with_reducible exact Nat.le_refl _) | omega | (simp only [World.size_alloc, World.size_setCell, World.size_drew, Wov_size, World.heap_drewN]; omega)))), m7_2.below (by (repeat' (first | (with_reducible assumption) | (with_reducible exact Below.refl _ _) | (with_reducible refine below_wov ?_ ?_ _) | (with_reducible refine below_drewN ?_ _) | (with_reducible refine Below.drew ?_) | (with_reducible refine Below.alloc ?_ ?_ _) | (with_reducible refine Below.setCell ?_ ?_ _) | (with_reducible exact Nat.le_refl _) | omega | (simp only [World.size_alloc, World.size_setCell, World.size_drew, Wov_size, World.heap_drewN]; omega)))), m7_3.below (by (repeat' (first | (with_reducible assumption) | (with_reducible exact Below.refl _ _) | (with_reducible refine below_wov ?_ ?_ _) | (with_reducible refine below_drewN ?_ _) | (with_reducible refine Below.drew ?_) | (with_reducible refine Below.alloc ?_ ?_ _) | (with_reducible refine Below.setCell ?_ ?_ _) | (with_reducible exact Nat.le_refl _) | omega | (simp only [World.size_alloc, World.size_setCell, World.size_drew, Wov_size, World.heap_drewN]; omega)))), m7_6.below (by (repeat' (first | (with_reducible assumption) | (with_reducible exact Below.refl _ _) | (with_reducible refine below_wov ?_ ?_ _) | (with_reducible refine below_drewN ?_ _) | (with_reducible refine Below.drew ?_) | (with_reducible refine Below.alloc ?_ ?_ _) | (with_reducible refine Below.setCell ?_ ?_ _) | (with_reducible exact Nat.le_refl _) | omega | (simp only [World.size_alloc, World.size_setCell, World.size_drew, Wov_size, World.heap_drewN]; omega)))), BoxZ.new (by rw [← hAr]; (try simp only [Wov_size]))⟩ ?_
      rintro W8 ⟨hb8, m8_0, m8_1, m8_2, m8_3, m8_4, m8_5⟩
      clear hb7 f7_0_lt f7_0_c0 f7_0_c1 f7_0_c2 f7_0_c3 f7_0_c4 f7_0_c5 f7_1_lt f7_1_c0 f7_1_c1 f7_1_c2 f7_1_c3 f7_1_c4 f7_1_c5 f7_2_lt f7_2_c0 f7_2_c1 f7_2_c2 f7_2_c3 f7_2_c4 f7_2_c5 f7_3_lt f7_3_c0 f7_3_c1 f7_3_c2 f7_3_c3 f7_3_c4 f7_3_c5 f7_4_lt f7_4_c0 f7_4_c1 f7_4_c2 f7_4_c3 f7_4_c4 f7_4_c5 f7_5_lt f7_5_c0 f7_5_c1 f7_5_c2 f7_5_c3 f7_5_c4 f7_5_c5 f7_6_lt f7_6_c0 f7_6_c1 f7_6_c2 f7_6_c3 f7_6_c4 f7_6_c5 m7_0 m7_1 m7_2 m7_3 m7_4 m7_5 m7_6 hs7
      have hs8 := hb8.size
      have f8_0_lt := m8_0.lt
      have f8_0_c0 := m8_0.c0
      have f8_0_c1 := m8_0.c1
      have f8_0_c2 := m8_0.c2
      have f8_0_c3 := m8_0.c3
      have f8_0_c4 := m8_0.c4
      have f8_0_c5 := m8_0.c5
      have f8_1_lt := m8_1.lt
      have f8_1_c0 := m8_1.c0
      have f8_1_c1 := m8_1.c1
      have f8_1_c2 := m8_1.c2
      have f8_1_c3 := m8_1.c3
      have f8_1_c4 := m8_1.c4
      have f8_1_c5 := m8_1.c5
      have f8_2_lt := m8_2.lt
      have f8_2_c0 := m8_2.c0
      have f8_2_c1 := m8_2.c1
      have f8_2_c2 := m8_2.c2
      have f8_2_c3 := m8_2.c3
      have f8_2_c4 := m8_2.c4
      have f8_2_c5 := m8_2.c5
      have f8_3_lt := m8_3.lt
      have f8_3_c0 := m8_3.c0
      have f8_3_c1 := m8_3.c1
      have f8_3_c2 := m8_3.c2
      have f8_3_c3 := m8_3.c3
      have f8_3_c4 := m8_3.c4
      have f8_3_c5 := m8_3.c5
      have f8_4_lt := m8_4.lt
      have f8_4_c0 := m8_4.c0
      have f8_4_c1 := m8_4.c1
      have f8_4_c2 := m8_4.c2
      have f8_4_c3 := m8_4.c3
      have f8_4_c4 := m8_4.c4
      have f8_4_c5 := m8_4.c5
      have f8_5_lt := m8_5.lt
      have f8_5_c0 := m8_5.c0
      have f8_5_c1 := m8_5.c1
      have f8_5_c2 := m8_5.c2
      have f8_5_c3 := m8_5.c3
      have f8_5_c4 := m8_5.c4
      have f8_5_c5 := m8_5.c5
      clear hAr
      refine (Cl.out _).mono ?_; rintro e w' ⟨rfl, ql, rfl⟩
      by_cases hl0 : el = 0
      · skip
        subst hl0
        obtain ⟨m, em, he, M1, M2⟩ := HM.out (by simp)
        have M1 := Lib.hid M1
        have M2 := Lib.hid M2
        clear HM Cl
        go_wp2_with (fail)
        obtain ⟨Al, hAl⟩ : ∃ A, W8.heap.size + ql.bl.size = A := ⟨_, rfl⟩
        rw [hAl]
        refine calls_world (fun W => Below w.heap.size w W ∧ BoxZ W (w.heap.size + 1) b ∧ BoxZ W Ax rx ∧ BoxZ W Al rl) ⟨by (repeat' (first | (with_reducible assumption) | (with_reducible exact Below.refl _ _) | (with_reducible refine below_wov ?_ ?_ _) | (with_reducible refine below_drewN ?_ _) | (with_reducible refine Below.drew ?_) | (with_reducible refine Below.alloc ?_ ?_ _) | (with_reducible refine Below.setCell ?_ ?_ _) | (with_reducible exact Nat.le_refl _) | omega | (simp only [World.size_alloc, World.size_setCell, World.size_drew, Wov_size, World.heap_drewN]; omega))), m8_1.below (by (repeat' (first | (with_reducible assumption) | (with_reducible exact Below.refl _ _) | (with_reducible refine below_wov ?_ ?_ _) | (with_reducible refine below_drewN ?_ _) | (with_reducible refine Below.drew ?_) | (with_reducible refine Below.alloc ?_ ?_ _) | (with_reducible refine Below.setCell ?_ ?_ _) | (with_reducible exact Nat.le_refl _) | omega | (simp only [World.size_alloc, World.size_setCell, World.size_drew, Wov_size, World.heap_drewN]; omega)))), m8_3.below (by (repeat' (first | (with_reducible assumption) | (with_reducible exact Below.refl _ _) | (with_reducible refine below_wov ?_ ?_ _) | (with_reducible refine below_drewN ?_ _) | (with_reducible refine Below.drew ?_) | (with_reducible refine Below.alloc ?_ ?_ _) | (with_reducible refine Below.setCell ?_ ?_ _) | (with_reducible exact Nat.le_refl _) | omega | (simp only [World.size_alloc, World.size_setCell, World.size_drew, Wov_size, World.heap_drewN]; omega)))), BoxZ.new (by rw [← hAl]; (try simp only [Wov_size]))⟩ ?_
        rintro W9 ⟨hb9, m9_0, m9_1, m9_2⟩
        clear hb8 f8_0_lt f8_0_c0 f8_0_c1 f8_0_c2 f8_0_c3 f8_0_c4 f8_0_c5 f8_1_lt f8_1_c0 f8_1_c1 f8_1_c2 f8_1_c3 f8_1_c4 f8_1_c5 f8_2_lt f8_2_c0 f8_2_c1 f8_2_c2 f8_2_c3 f8_2_c4 f8_2_c5 f8_3_lt f8_3_c0 f8_3_c1 f8_3_c2 f8_3_c3 f8_3_c4 f8_3_c5 f8_4_lt f8_4_c0 f8_4_c1 f8_4_c2 f8_4_c3 f8_4_c4 f8_4_c5 f8_5_lt f8_5_c0 f8_5_c1 f8_5_c2 f8_5_c3 f8_5_c4 f8_5_c5 m8_0 m8_1 m8_2 m8_3 m8_4 m8_5 hs8
        have hs9 := hb9.size
        have f9_0_lt := m9_0.lt
        have f9_0_c0 := m9_0.c0
        have f9_0_c1 := m9_0.c1
        have f9_0_c2 := m9_0.c2
        have f9_0_c3 := m9_0.c3
        have f9_0_c4 := m9_0.c4
        have f9_0_c5 := m9_0.c5
        have f9_1_lt := m9_1.lt
        have f9_1_c0 := m9_1.c0
        have f9_1_c1 := m9_1.c1
        have f9_1_c2 := m9_1.c2
        have f9_1_c3 := m9_1.c3
        have f9_1_c4 := m9_1.c4
        have f9_1_c5 := m9_1.c5
        have f9_2_lt := m9_2.lt
        have f9_2_c0 := m9_2.c0
        have f9_2_c1 := m9_2.c1
        have f9_2_c2 := m9_2.c2
        have f9_2_c3 := m9_2.c3
        have f9_2_c4 := m9_2.c4
        have f9_2_c5 := m9_2.c5
        clear hAl
        refine (M1.out _).mono ?_; rintro e w' ⟨rfl, qm, rfl⟩
        by_cases hm0 : em = 0
        · skip
          subst hm0
          obtain ⟨k, ek, K1, K2⟩ := M2.out (by simp)
          have K1 := Lib.hid K1
          clear M1 M2 he
          clear K2
          go_wp2_with (fail)
          obtain ⟨Am, hAm⟩ : ∃ A, W9.heap.size + qm.bl.size = A := ⟨_, rfl⟩
          rw [hAm]
          refine calls_world (fun W => Below w.heap.size w W ∧ BoxZ W Ax rx ∧ BoxZ W Am m) ⟨by (repeat' (first | (with_reducible assumption) | (with_reducible exact Below.refl _ _) | (with_reducible refine below_wov ?_ ?_ _) | (with_reducible refine below_drewN ?_ _) | (with_reducible refine Below.drew ?_) | (with_reducible refine Below.alloc ?_ ?_ _) | (with_reducible refine Below.setCell ?_ ?_ _) | (with_reducible exact Nat.le_refl _) | omega | (simp only [World.size_alloc, World.size_setCell, World.size_drew, Wov_size, World.heap_drewN]; omega))), m9_1.below (by (repeat' (first | (with_reducible assumption) | (with_reducible exact Below.refl _ _) | (with_reducible refine below_wov ?_ ?_ _) | (with_reducible refine below_drewN ?_ _) | (with_reducible refine Below.drew ?_) | (with_reducible refine Below.alloc ?_ ?_ _) | (with_reducible refine Below.setCell ?_ ?_ _) | (with_reducible exact Nat.le_refl _) | omega | (simp only [World.size_alloc, World.size_setCell, World.size_drew, Wov_size, World.heap_drewN]; omega)))), BoxZ.new (by rw [← hAm]; (try simp only [Wov_size]))⟩ ?_
          rintro W10 ⟨hb10, m10_0, m10_1⟩
          clear hb9 f9_0_lt f9_0_c0 f9_0_c1 f9_0_c2 f9_0_c3 f9_0_c4 f9_0_c5 f9_1_lt f9_1_c0 f9_1_c1 f9_1_c2 f9_1_c3 f9_1_c4 f9_1_c5 f9_2_lt f9_2_c0 f9_2_c1 f9_2_c2 f9_2_c3 f9_2_c4 f9_2_c5 m9_0 m9_1 m9_2 hs9
          have hs10 := hb10.size
          have f10_0_lt := m10_0.lt
          have f10_0_c0 := m10_0.c0
          have f10_0_c1 := m10_0.c1
          have f10_0_c2 := m10_0.c2
          have f10_0_c3 := m10_0.c3
          have f10_0_c4 := m10_0.c4
          have f10_0_c5 := m10_0.c5
          have f10_1_lt := m10_1.lt
          have f10_1_c0 := m10_1.c0
          have f10_1_c1 := m10_1.c1
          have f10_1_c2 := m10_1.c2
          have f10_1_c3 := m10_1.c3
          have f10_1_c4 := m10_1.c4
          have f10_1_c5 := m10_1.c5
          clear hAm
          refine (K1.out _).mono ?_; rintro e w' ⟨rfl, qk, rfl⟩
          clear K1
          go_wp2
          all_goals
            go_ret
            exact gives_bool (by simp) (by (repeat' (first | (with_reducible assumption) | (with_reducible exact Below.refl _ _) | (with_reducible refine below_wov ?_ ?_ _) | (with_reducible refine below_drewN ?_ _) | (with_reducible refine Below.drew ?_) | (with_reducible refine Below.alloc ?_ ?_ _) | (with_reducible refine Below.setCell ?_ ?_ _) | (with_reducible exact Nat.le_refl _) | omega | (simp only [World.size_alloc, World.size_setCell, World.size_drew, Wov_size, World.heap_drewN]; omega))))
        · skip
          clear M1 M2
          rcases he with he | rfl | rfl
          · exact absurd he hm0
          all_goals
            clear hm0
            go_wp2
            all_goals
              go_ret
              exact gives_bool (by simp) (by (repeat' (first | (with_reducible assumption) | (with_reducible exact Below.refl _ _) | (with_reducible refine below_wov ?_ ?_ _) | (with_reducible refine below_drewN ?_ _) | (with_reducible refine Below.drew ?_) | (with_reducible refine Below.alloc ?_ ?_ _) | (with_reducible refine Below.setCell ?_ ?_ _) | (with_reducible exact Nat.le_refl _) | omega | (simp only [World.size_alloc, World.size_setCell, World.size_drew, Wov_size, World.heap_drewN]; omega))))
      · skip
        have bl0 : (el != 0) = true := by rw [bne_iff_ne]; exact hl0
        clear HM Cl hl0
        go_wp2
        all_goals
          go_ret
          exact gives_bool (by simp) (by (repeat' (first | (with_reducible assumption) | (with_reducible exact Below.refl _ _) | (with_reducible refine below_wov ?_ ?_ _) | (with_reducible refine below_drewN ?_ _) | (with_reducible refine Below.drew ?_) | (with_reducible refine Below.alloc ?_ ?_ _) | (with_reducible refine Below.setCell ?_ ?_ _) | (with_reducible exact Nat.le_refl _) | omega | (simp only [World.size_alloc, World.size_setCell, World.size_drew, Wov_size, World.heap_drewN]; omega))))
  · skip
    have hxe : (rx, ex) = ((fun _ => 0), 8) := by rw [hx]; exact comp_bad (by simpa using hok)
    simp only [Prod.mk.injEq] at hxe
    obtain ⟨hrx, rfl⟩ := hxe
    have hpq : ep = 8 ∨ (ep = 0 ∧ eq = 8) := by
      unfold backR at hp hq
      cases ka : okZ a
      · rw [ka] at hp; simp only [Bool.false_eq_true, if_false, Prod.mk.injEq] at hp; exact .inl hp.2
      · rw [ka] at hp; simp only [if_true, Prod.mk.injEq] at hp
        have kb : okZ b = false := by cases kb : okZ b; rfl; exact absurd (by rw [ka, kb]; rfl) hok
        rw [kb] at hq; simp only [Bool.false_eq_true, if_false, Prod.mk.injEq] at hq
        exact .inr ⟨hp.2, hq.2⟩
    clear hx hy hp hq hok O1 wa wb wc hrx
    unfold zoneV
    go_enter Try.func8, Try.ntmps8
    go_wp2_with (fail)
    refine calls_world (fun W => Below w.heap.size w W ∧ BoxZ W w.heap.size a ∧ BoxZ W (w.heap.size + 1) b ∧ BoxZ W (w.heap.size + 2) c) ⟨by (repeat' (first | (with_reducible assumption) | (with_reducible exact Below.refl _ _) | (with_reducible refine below_wov ?_ ?_ _) | (with_reducible refine below_drewN ?_ _) | (with_reducible refine Below.drew ?_) | (with_reducible refine Below.alloc ?_ ?_ _) | (with_reducible refine Below.setCell ?_ ?_ _) | (with_reducible exact Nat.le_refl _) | omega | (simp only [World.size_alloc, World.size_setCell, World.size_drew, Wov_size, World.heap_drewN]; omega))), (BoxZ.new (W := w) (t := 24) (by simp)).below (by (repeat' (first | (with_reducible assumption) | (with_reducible exact Below.refl _ _) | (with_reducible refine below_wov ?_ ?_ _) | (with_reducible refine below_drewN ?_ _) | (with_reducible refine Below.drew ?_) | (with_reducible refine Below.alloc ?_ ?_ _) | (with_reducible refine Below.setCell ?_ ?_ _) | (with_reducible exact Nat.le_refl _) | omega | (simp only [World.size_alloc, World.size_setCell, World.size_drew, Wov_size, World.heap_drewN]; omega)))), (BoxZ.new (W := (World.alloc w (.cells #[.int .i64 (a 0), .int .i64 (a 1), .int .i64 (a 2), .int .i64 (a 3), .int .i64 (a 4), .int .i64 (a 5)] 24))) (t := 24) (by simp)).below (by (repeat' (first | (with_reducible assumption) | (with_reducible exact Below.refl _ _) | (with_reducible refine below_wov ?_ ?_ _) | (with_reducible refine below_drewN ?_ _) | (with_reducible refine Below.drew ?_) | (with_reducible refine Below.alloc ?_ ?_ _) | (with_reducible refine Below.setCell ?_ ?_ _) | (with_reducible exact Nat.le_refl _) | omega | (simp only [World.size_alloc, World.size_setCell, World.size_drew, Wov_size, World.heap_drewN]; omega)))), (BoxZ.new (W := (World.alloc (World.alloc w (.cells #[.int .i64 (a 0), .int .i64 (a 1), .int .i64 (a 2), .int .i64 (a 3), .int .i64 (a 4), .int .i64 (a 5)] 24)) (.cells #[.int .i64 (b 0), .int .i64 (b 1), .int .i64 (b 2), .int .i64 (b 3), .int .i64 (b 4), .int .i64 (b 5)] 24))) (t := 24) (by simp)).below (by (repeat' (first | (with_reducible assumption) | (with_reducible exact Below.refl _ _) | (with_reducible refine below_wov ?_ ?_ _) | (with_reducible refine below_drewN ?_ _) | (with_reducible refine Below.drew ?_) | (with_reducible refine Below.alloc ?_ ?_ _) | (with_reducible refine Below.setCell ?_ ?_ _) | (with_reducible exact Nat.le_refl _) | omega | (simp only [World.size_alloc, World.size_setCell, World.size_drew, Wov_size, World.heap_drewN]; omega))))⟩ ?_
    rintro W1 ⟨hb1, m1_0, m1_1, m1_2⟩
    have hs1 := hb1.size
    have f1_0_lt := m1_0.lt
    have f1_0_c0 := m1_0.c0
    have f1_0_c1 := m1_0.c1
    have f1_0_c2 := m1_0.c2
    have f1_0_c3 := m1_0.c3
    have f1_0_c4 := m1_0.c4
    have f1_0_c5 := m1_0.c5
    have f1_1_lt := m1_1.lt
    have f1_1_c0 := m1_1.c0
    have f1_1_c1 := m1_1.c1
    have f1_1_c2 := m1_1.c2
    have f1_1_c3 := m1_1.c3
    have f1_1_c4 := m1_1.c4
    have f1_1_c5 := m1_1.c5
    have f1_2_lt := m1_2.lt
    have f1_2_c0 := m1_2.c0
    have f1_2_c1 := m1_2.c1
    have f1_2_c2 := m1_2.c2
    have f1_2_c3 := m1_2.c3
    have f1_2_c4 := m1_2.c4
    have f1_2_c5 := m1_2.c5
    refine (HA.out _).mono ?_; rintro e w' ⟨rfl, q0, rfl⟩
    go_wp2_with (fail)
    refine calls_world (fun W => Below w.heap.size w W ∧ BoxZ W w.heap.size a ∧ BoxZ W (w.heap.size + 1) b ∧ BoxZ W (w.heap.size + 2) c) ⟨by (repeat' (first | (with_reducible assumption) | (with_reducible exact Below.refl _ _) | (with_reducible refine below_wov ?_ ?_ _) | (with_reducible refine below_drewN ?_ _) | (with_reducible refine Below.drew ?_) | (with_reducible refine Below.alloc ?_ ?_ _) | (with_reducible refine Below.setCell ?_ ?_ _) | (with_reducible exact Nat.le_refl _) | omega | (simp only [World.size_alloc, World.size_setCell, World.size_drew, Wov_size, World.heap_drewN]; omega))), m1_0.below (by (repeat' (first | (with_reducible assumption) | (with_reducible exact Below.refl _ _) | (with_reducible refine below_wov ?_ ?_ _) | (with_reducible refine below_drewN ?_ _) | (with_reducible refine Below.drew ?_) | (with_reducible refine Below.alloc ?_ ?_ _) | (with_reducible refine Below.setCell ?_ ?_ _) | (with_reducible exact Nat.le_refl _) | omega | (simp only [World.size_alloc, World.size_setCell, World.size_drew, Wov_size, World.heap_drewN]; omega)))), m1_1.below (by (repeat' (first | (with_reducible assumption) | (with_reducible exact Below.refl _ _) | (with_reducible refine below_wov ?_ ?_ _) | (with_reducible refine below_drewN ?_ _) | (with_reducible refine Below.drew ?_) | (with_reducible refine Below.alloc ?_ ?_ _) | (with_reducible refine Below.setCell ?_ ?_ _) | (with_reducible exact Nat.le_refl _) | omega | (simp only [World.size_alloc, World.size_setCell, World.size_drew, Wov_size, World.heap_drewN]; omega)))), m1_2.below (by (repeat' (first | (with_reducible assumption) | (with_reducible exact Below.refl _ _) | (with_reducible refine below_wov ?_ ?_ _) | (with_reducible refine below_drewN ?_ _) | (with_reducible refine Below.drew ?_) | (with_reducible refine Below.alloc ?_ ?_ _) | (with_reducible refine Below.setCell ?_ ?_ _) | (with_reducible exact Nat.le_refl _) | omega | (simp only [World.size_alloc, World.size_setCell, World.size_drew, Wov_size, World.heap_drewN]; omega))))⟩ ?_
    rintro W2 ⟨hb2, m2_0, m2_1, m2_2⟩
    clear hb1 f1_0_lt f1_0_c0 f1_0_c1 f1_0_c2 f1_0_c3 f1_0_c4 f1_0_c5 f1_1_lt f1_1_c0 f1_1_c1 f1_1_c2 f1_1_c3 f1_1_c4 f1_1_c5 f1_2_lt f1_2_c0 f1_2_c1 f1_2_c2 f1_2_c3 f1_2_c4 f1_2_c5 m1_0 m1_1 m1_2 hs1
    have hs2 := hb2.size
    have f2_0_lt := m2_0.lt
    have f2_0_c0 := m2_0.c0
    have f2_0_c1 := m2_0.c1
    have f2_0_c2 := m2_0.c2
    have f2_0_c3 := m2_0.c3
    have f2_0_c4 := m2_0.c4
    have f2_0_c5 := m2_0.c5
    have f2_1_lt := m2_1.lt
    have f2_1_c0 := m2_1.c0
    have f2_1_c1 := m2_1.c1
    have f2_1_c2 := m2_1.c2
    have f2_1_c3 := m2_1.c3
    have f2_1_c4 := m2_1.c4
    have f2_1_c5 := m2_1.c5
    have f2_2_lt := m2_2.lt
    have f2_2_c0 := m2_2.c0
    have f2_2_c1 := m2_2.c1
    have f2_2_c2 := m2_2.c2
    have f2_2_c3 := m2_2.c3
    have f2_2_c4 := m2_2.c4
    have f2_2_c5 := m2_2.c5
    refine (Cx.out _).mono ?_; rintro e w' ⟨rfl, qx, rfl⟩
    go_wp2_with (fail)
    obtain ⟨Ax, hAx⟩ : ∃ A, W2.heap.size + qx.bl.size = A := ⟨_, rfl⟩
    rw [hAx]
    refine calls_world (fun W => Below w.heap.size w W ∧ BoxZ W w.heap.size a ∧ BoxZ W (w.heap.size + 1) b ∧ BoxZ W (w.heap.size + 2) c ∧ BoxZ W Ax rx) ⟨by (repeat' (first | (with_reducible assumption) | (with_reducible exact Below.refl _ _) | (with_reducible refine below_wov ?_ ?_ _) | (with_reducible refine below_drewN ?_ _) | (with_reducible refine Below.drew ?_) | (with_reducible refine Below.alloc ?_ ?_ _) | (with_reducible refine Below.setCell ?_ ?_ _) | (with_reducible exact Nat.le_refl _) | omega | (simp only [World.size_alloc, World.size_setCell, World.size_drew, Wov_size, World.heap_drewN]; omega))), m2_0.below (by (repeat' (first | (with_reducible assumption) | (with_reducible exact Below.refl _ _) | (with_reducible refine below_wov ?_ ?_ _) | (with_reducible refine below_drewN ?_ _) | (with_reducible refine Below.drew ?_) | (with_reducible refine Below.alloc ?_ ?_ _) | (with_reducible refine Below.setCell ?_ ?_ _) | (with_reducible exact Nat.le_refl _) | omega | (simp only [World.size_alloc, World.size_setCell, World.size_drew, Wov_size, World.heap_drewN]; omega)))), m2_1.below (by (repeat' (first | (with_reducible assumption) | (with_reducible exact Below.refl _ _) | (with_reducible refine below_wov ?_ ?_ _) | (with_reducible refine below_drewN ?_ _) | (with_reducible refine Below.drew ?_) | (with_reducible refine Below.alloc ?_ ?_ _) | (with_reducible refine Below.setCell ?_ ?_ _) | (with_reducible exact Nat.le_refl _) | omega | (simp only [World.size_alloc, World.size_setCell, World.size_drew, Wov_size, World.heap_drewN]; omega)))), m2_2.below (by (repeat' (first | (with_reducible assumption) | (with_reducible exact Below.refl _ _) | (with_reducible refine below_wov ?_ ?_ _) | (with_reducible refine below_drewN ?_ _) | (with_reducible refine Below.drew ?_) | (with_reducible refine Below.alloc ?_ ?_ _) | (with_reducible refine Below.setCell ?_ ?_ _) | (with_reducible exact Nat.le_refl _) | omega | (simp only [World.size_alloc, World.size_setCell, World.size_drew, Wov_size, World.heap_drewN]; omega)))), BoxZ.new (by rw [← hAx]; (try simp only [Wov_size]))⟩ ?_
    rintro W3 ⟨hb3, m3_0, m3_1, m3_2, m3_3⟩
    clear hb2 f2_0_lt f2_0_c0 f2_0_c1 f2_0_c2 f2_0_c3 f2_0_c4 f2_0_c5 f2_1_lt f2_1_c0 f2_1_c1 f2_1_c2 f2_1_c3 f2_1_c4 f2_1_c5 f2_2_lt f2_2_c0 f2_2_c1 f2_2_c2 f2_2_c3 f2_2_c4 f2_2_c5 m2_0 m2_1 m2_2 hs2
    have hs3 := hb3.size
    have f3_0_lt := m3_0.lt
    have f3_0_c0 := m3_0.c0
    have f3_0_c1 := m3_0.c1
    have f3_0_c2 := m3_0.c2
    have f3_0_c3 := m3_0.c3
    have f3_0_c4 := m3_0.c4
    have f3_0_c5 := m3_0.c5
    have f3_1_lt := m3_1.lt
    have f3_1_c0 := m3_1.c0
    have f3_1_c1 := m3_1.c1
    have f3_1_c2 := m3_1.c2
    have f3_1_c3 := m3_1.c3
    have f3_1_c4 := m3_1.c4
    have f3_1_c5 := m3_1.c5
    have f3_2_lt := m3_2.lt
    have f3_2_c0 := m3_2.c0
    have f3_2_c1 := m3_2.c1
    have f3_2_c2 := m3_2.c2
    have f3_2_c3 := m3_2.c3
    have f3_2_c4 := m3_2.c4
    have f3_2_c5 := m3_2.c5
    have f3_3_lt := m3_3.lt
    have f3_3_c0 := m3_3.c0
    have f3_3_c1 := m3_3.c1
    have f3_3_c2 := m3_3.c2
    have f3_3_c3 := m3_3.c3
    have f3_3_c4 := m3_3.c4
    have f3_3_c5 := m3_3.c5
    clear hAx Cx
    refine (Cy.out _).mono ?_; rintro e w' ⟨rfl, qy, rfl⟩
    clear Cy HA
    go_wp2_with (fail)
    obtain ⟨Ay, hAy⟩ : ∃ A, W3.heap.size + qy.bl.size = A := ⟨_, rfl⟩
    rw [hAy]
    refine calls_world (fun W => Below w.heap.size w W ∧ BoxZ W w.heap.size a ∧ BoxZ W (w.heap.size + 1) b ∧ BoxZ W (w.heap.size + 2) c ∧ BoxZ W Ax rx ∧ BoxZ W Ay ry) ⟨by (repeat' (first | (with_reducible assumption) | (with_reducible exact Below.refl _ _) | (with_reducible refine below_wov ?_ ?_ _) | (with_reducible refine below_drewN ?_ _) | (with_reducible refine Below.drew ?_) | (with_reducible refine Below.alloc ?_ ?_ _) | (with_reducible refine Below.setCell ?_ ?_ _) | (with_reducible exact Nat.le_refl _) | omega | (simp only [World.size_alloc, World.size_setCell, World.size_drew, Wov_size, World.heap_drewN]; omega))), m3_0.below (by (repeat' (first | (with_reducible assumption) | (with_reducible exact Below.refl _ _) | (with_reducible refine below_wov ?_ ?_ _) | (with_reducible refine below_drewN ?_ _) | (with_reducible refine Below.drew ?_) | (with_reducible refine Below.alloc ?_ ?_ _) | (with_reducible refine Below.setCell ?_ ?_ _) | (with_reducible exact Nat.le_refl _) | omega | (simp only [World.size_alloc, World.size_setCell, World.size_drew, Wov_size, World.heap_drewN]; omega)))), m3_1.below (by (repeat' (first | (with_reducible assumption) | (with_reducible exact Below.refl _ _) | (with_reducible refine below_wov ?_ ?_ _) | (with_reducible refine below_drewN ?_ _) | (with_reducible refine Below.drew ?_) | (with_reducible refine Below.alloc ?_ ?_ _) | (with_reducible refine Below.setCell ?_ ?_ _) | (with_reducible exact Nat.le_refl _) | omega | (simp only [World.size_alloc, World.size_setCell, World.size_drew, Wov_size, World.heap_drewN]; omega)))), m3_2.below (by (repeat' (first | (with_reducible assumption) | (with_reducible exact Below.refl _ _) | (with_reducible refine below_wov ?_ ?_ _) | (with_reducible refine below_drewN ?_ _) | (with_reducible refine Below.drew ?_) | (with_reducible refine Below.alloc ?_ ?_ _) | (with_reducible refine Below.setCell ?_ ?_ _) | (with_reducible exact Nat.le_refl _) | omega | (simp only [World.size_alloc, World.size_setCell, World.size_drew, Wov_size, World.heap_drewN]; omega)))), m3_3.below (by (repeat' (first | (with_reducible assumption) | (with_reducible exact Below.refl _ _) | (with_reducible refine below_wov ?_ ?_ _) | (with_reducible refine below_drewN ?_ _) | (with_reducible refine Below.drew ?_) | (with_reducible refine Below.alloc ?_ ?_ _) | (with_reducible refine Below.setCell ?_ ?_ _) | (with_reducible exact Nat.le_refl _) | omega | (simp only [World.size_alloc, World.size_setCell, World.size_drew, Wov_size, World.heap_drewN]; omega)))), BoxZ.new (by rw [← hAy]; (try simp only [Wov_size]))⟩ ?_
    rintro W4 ⟨hb4, m4_0, m4_1, m4_2, m4_3, m4_4⟩
    clear hb3 f3_0_lt f3_0_c0 f3_0_c1 f3_0_c2 f3_0_c3 f3_0_c4 f3_0_c5 f3_1_lt f3_1_c0 f3_1_c1 f3_1_c2 f3_1_c3 f3_1_c4 f3_1_c5 f3_2_lt f3_2_c0 f3_2_c1 f3_2_c2 f3_2_c3 f3_2_c4 f3_2_c5 f3_3_lt f3_3_c0 f3_3_c1 f3_3_c2 f3_3_c3 f3_3_c4 f3_3_c5 m3_0 m3_1 m3_2 m3_3 hs3
    have hs4 := hb4.size
    have f4_0_lt := m4_0.lt
    have f4_0_c0 := m4_0.c0
    have f4_0_c1 := m4_0.c1
    have f4_0_c2 := m4_0.c2
    have f4_0_c3 := m4_0.c3
    have f4_0_c4 := m4_0.c4
    have f4_0_c5 := m4_0.c5
    have f4_1_lt := m4_1.lt
    have f4_1_c0 := m4_1.c0
    have f4_1_c1 := m4_1.c1
    have f4_1_c2 := m4_1.c2
    have f4_1_c3 := m4_1.c3
    have f4_1_c4 := m4_1.c4
    have f4_1_c5 := m4_1.c5
    have f4_2_lt := m4_2.lt
    have f4_2_c0 := m4_2.c0
    have f4_2_c1 := m4_2.c1
    have f4_2_c2 := m4_2.c2
    have f4_2_c3 := m4_2.c3
    have f4_2_c4 := m4_2.c4
    have f4_2_c5 := m4_2.c5
    have f4_3_lt := m4_3.lt
    have f4_3_c0 := m4_3.c0
    have f4_3_c1 := m4_3.c1
    have f4_3_c2 := m4_3.c2
    have f4_3_c3 := m4_3.c3
    have f4_3_c4 := m4_3.c4
    have f4_3_c5 := m4_3.c5
    have f4_4_lt := m4_4.lt
    have f4_4_c0 := m4_4.c0
    have f4_4_c1 := m4_4.c1
    have f4_4_c2 := m4_4.c2
    have f4_4_c3 := m4_4.c3
    have f4_4_c4 := m4_4.c4
    have f4_4_c5 := m4_4.c5
    clear hAy
    refine (Cp.out _).mono ?_; rintro e w' ⟨rfl, qp, rfl⟩
    go_wp2_with (fail)
    obtain ⟨Ap, hAp⟩ : ∃ A, W4.heap.size + qp.bl.size = A := ⟨_, rfl⟩
    rw [hAp]
    refine calls_world (fun W => Below w.heap.size w W ∧ BoxZ W w.heap.size a ∧ BoxZ W (w.heap.size + 1) b ∧ BoxZ W (w.heap.size + 2) c ∧ BoxZ W Ax rx ∧ BoxZ W Ay ry ∧ BoxZ W Ap rp) ⟨by (repeat' (first | (with_reducible assumption) | (with_reducible exact Below.refl _ _) | (with_reducible refine below_wov ?_ ?_ _) | (with_reducible refine below_drewN ?_ _) | (with_reducible refine Below.drew ?_) | (with_reducible refine Below.alloc ?_ ?_ _) | (with_reducible refine Below.setCell ?_ ?_ _) | (with_reducible exact Nat.le_refl _) | omega | (simp only [World.size_alloc, World.size_setCell, World.size_drew, Wov_size, World.heap_drewN]; omega))), m4_0.below (by (repeat' (first | (with_reducible assumption) | (with_reducible exact Below.refl _ _) | (with_reducible refine below_wov ?_ ?_ _) | (with_reducible refine below_drewN ?_ _) | (with_reducible refine Below.drew ?_) | (with_reducible refine Below.alloc ?_ ?_ _) | (with_reducible refine Below.setCell ?_ ?_ _) | (with_reducible exact Nat.le_refl _) | omega | (simp only [World.size_alloc, World.size_setCell, World.size_drew, Wov_size, World.heap_drewN]; omega)))), m4_1.below (by (repeat' (first | (with_reducible assumption) | (with_reducible exact Below.refl _ _) | (with_reducible refine below_wov ?_ ?_ _) | (with_reducible refine below_drewN ?_ _) | (with_reducible refine Below.drew ?_) | (with_reducible refine Below.alloc ?_ ?_ _) | (with_reducible refine Below.setCell ?_ ?_ _) | (with_reducible exact Nat.le_refl _) | omega | (simp only [World.size_alloc, World.size_setCell, World.size_drew, Wov_size, World.heap_drewN]; omega)))), m4_2.below (by (repeat' (first | (with_reducible assumption) | (with_reducible exact Below.refl _ _) | (with_reducible refine below_wov ?_ ?_ _) | (with_reducible refine below_drewN ?_ _) | (with_reducible refine Below.drew ?_) | (with_reducible refine Below.alloc ?_ ?_ _) | (with_reducible refine Below.setCell ?_ ?_ _) | (with_reducible exact Nat.le_refl _) | omega | (simp only [World.size_alloc, World.size_setCell, World.size_drew, Wov_size, World.heap_drewN]; omega)))), m4_3.below (by (repeat' (first | (with_reducible assumption) | (with_reducible exact Below.refl _ _) | (with_reducible refine below_wov ?_ ?_ _) | (with_reducible refine below_drewN ?_ _) | (with_reducible refine Below.drew ?_) | (with_reducible refine Below.alloc ?_ ?_ _) | (with_reducible refine Below.setCell ?_ ?_ _) | (with_reducible exact Nat.le_refl _) | omega | (simp only [World.size_alloc, World.size_setCell, World.size_drew, Wov_size, World.heap_drewN]; omega)))), m4_4.below (by (repeat' (first | (with_reducible assumption) | (with_reducible exact Below.refl _ _) | (with_reducible refine below_wov ?_ ?_ _) | (with_reducible refine below_drewN ?_ _) | (with_reducible refine Below.drew ?_) | (with_reducible refine Below.alloc ?_ ?_ _) | (with_reducible refine Below.setCell ?_ ?_ _) | (with_reducible exact Nat.le_refl _) | omega | (simp only [World.size_alloc, World.size_setCell, World.size_drew, Wov_size, World.heap_drewN]; omega)))), BoxZ.new (by rw [← hAp]; (try simp only [Wov_size]))⟩ ?_
    rintro W5 ⟨hb5, m5_0, m5_1, m5_2, m5_3, m5_4, m5_5⟩
    clear hb4 f4_0_lt f4_0_c0 f4_0_c1 f4_0_c2 f4_0_c3 f4_0_c4 f4_0_c5 f4_1_lt f4_1_c0 f4_1_c1 f4_1_c2 f4_1_c3 f4_1_c4 f4_1_c5 f4_2_lt f4_2_c0 f4_2_c1 f4_2_c2 f4_2_c3 f4_2_c4 f4_2_c5 f4_3_lt f4_3_c0 f4_3_c1 f4_3_c2 f4_3_c3 f4_3_c4 f4_3_c5 f4_4_lt f4_4_c0 f4_4_c1 f4_4_c2 f4_4_c3 f4_4_c4 f4_4_c5 m4_0 m4_1 m4_2 m4_3 m4_4 hs4
    have hs5 := hb5.size
    have f5_0_lt := m5_0.lt
    have f5_0_c0 := m5_0.c0
    have f5_0_c1 := m5_0.c1
    have f5_0_c2 := m5_0.c2
    have f5_0_c3 := m5_0.c3
    have f5_0_c4 := m5_0.c4
    have f5_0_c5 := m5_0.c5
    have f5_1_lt := m5_1.lt
    have f5_1_c0 := m5_1.c0
    have f5_1_c1 := m5_1.c1
    have f5_1_c2 := m5_1.c2
    have f5_1_c3 := m5_1.c3
    have f5_1_c4 := m5_1.c4
    have f5_1_c5 := m5_1.c5
    have f5_2_lt := m5_2.lt
    have f5_2_c0 := m5_2.c0
    have f5_2_c1 := m5_2.c1
    have f5_2_c2 := m5_2.c2
    have f5_2_c3 := m5_2.c3
    have f5_2_c4 := m5_2.c4
    have f5_2_c5 := m5_2.c5
    have f5_3_lt := m5_3.lt
    have f5_3_c0 := m5_3.c0
    have f5_3_c1 := m5_3.c1
    have f5_3_c2 := m5_3.c2
    have f5_3_c3 := m5_3.c3
    have f5_3_c4 := m5_3.c4
    have f5_3_c5 := m5_3.c5
    have f5_4_lt := m5_4.lt
    have f5_4_c0 := m5_4.c0
    have f5_4_c1 := m5_4.c1
    have f5_4_c2 := m5_4.c2
    have f5_4_c3 := m5_4.c3
    have f5_4_c4 := m5_4.c4
    have f5_4_c5 := m5_4.c5
    have f5_5_lt := m5_5.lt
    have f5_5_c0 := m5_5.c0
    have f5_5_c1 := m5_5.c1
    have f5_5_c2 := m5_5.c2
    have f5_5_c3 := m5_5.c3
    have f5_5_c4 := m5_5.c4
    have f5_5_c5 := m5_5.c5
    clear hAp
    refine (Cq.out _).mono ?_; rintro e w' ⟨rfl, qq, rfl⟩
    clear Cp Cq
    rcases hpq with rfl | ⟨rfl, rfl⟩
    all_goals
      go_wp2
      all_goals
        go_ret
        exact gives_bool (by simp) (by (repeat' (first | (with_reducible assumption) | (with_reducible exact Below.refl _ _) | (with_reducible refine below_wov ?_ ?_ _) | (with_reducible refine below_drewN ?_ _) | (with_reducible refine Below.drew ?_) | (with_reducible refine Below.alloc ?_ ?_ _) | (with_reducible refine Below.setCell ?_ ?_ _) | (with_reducible exact Nat.le_refl _) | omega | (simp only [World.size_alloc, World.size_setCell, World.size_drew, Wov_size, World.heap_drewN]; omega))))
theorem walk (z0 : Nat → Int) (wz0 : FitsZ z0) (z1 : Nat → Int) (wz1 : FitsZ z1) (z2 : Nat → Int) (wz2 : FitsZ z2) (w : World) : Calls Try.prog 8 #[zoneV z0, zoneV z1, zoneV z2] w (Gives w (.bool true)) := walk0 z0 wz0 z1 wz1 z2 wz2 w
end Go.Proofs.Ytbgbhfcnadjhdaa.compOrder
