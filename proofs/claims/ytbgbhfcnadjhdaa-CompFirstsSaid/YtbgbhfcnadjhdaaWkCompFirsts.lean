/- The law CompFirsts (walk): a time is a first of a zone's just if it has some pair with it. No condition. -/
import Derived.Test.YtbgbhfcnadjhdaaL11
import Derived.Test.YtbgbhfcnadjhdaaH9
import Derived.Test.YtbgbhfcnadjhdaaFrame2
namespace Go.Proofs.Ytbgbhfcnadjhdaa.compFirsts
open Go.ChangeShapes Go.WideShapes Go.ChangeAt Go.RowKit
set_option linter.unusedVariables false
set_option linter.unusedSimpArgs false
attribute [local go_sem] Nat.add_assoc Nat.add_lt_add_iff_left lit_lt_add
theorem kept_one {f : Nat → Int} {T U : Nat → Int × Int} (h : T 0 = U 0) : keptAll 2 f T = keptAll 2 f U := by
  have e : ∀ i, i < 2 → tm T i = tm U i := fun i hi => by
    have : i = 0 ∨ i = 1 := by omega
    rcases this with rfl | rfl
    · rfl
    · exact h
  rw [Bool.eq_iff_iff, keptAll_iff, keptAll_iff]
  exact ⟨fun k i j hi hj => by rw [← e i hi, ← e j hj]; exact k i j hi hj, fun k i j hi hj => by rw [e i hi, e j hj]; exact k i j hi hj⟩
theorem allRat_one {n d : Int} (h : okRat n d = true) : allRat 1 (fun _ => (n, d)) = true := allRat_t fun x hx => h
theorem twoE_zero {n : Nat} {f g : Nat → Int} (hf : okD n (n * n) f = true) (hg : okD n (n * n) g = true) : twoE n (n * n) f n (n * n) g = 0 := by
  unfold twoE
  rw [hf, hg]; simp

set_option maxRecDepth 100000 in
set_option maxHeartbeats 16000000 in
theorem walk0 (a : Nat → Int) (wa : FitsZ a) (n : Int) (m : Int) (wn : fits64 n) (wm : fits64 m) (w : World) :
    Calls Try.prog 12 #[zoneV a, .agg #[.int .i64 n, .int .i64 m]] w (Gives w (.bool true)) := by
  have HA := Lib.hid alive9
  obtain ⟨⟨ss, es⟩, hs⟩ : ∃ r, r = firstsZ a := ⟨_, rfl⟩
  have Cs : Hid (∀ w, Calls Try.prog 22 #[.agg #[.int .i64 (a 0), .int .i64 (a 1), .int .i64 (a 2), .int .i64 (a 3), .int .i64 (a 4), .int .i64 (a 5)]] w (Gives w (.tuple #[.agg #[.int .i64 ss.lo, .bool ss.ls, .int .i64 ss.hi, .bool ss.hs, .bool ss.op], .int .i64 es]))) := fun w => by
    have := cfirsts_any a w wa
    rw [← hs] at this; exact this
  have CK : Hid (∀ w, Calls Try.prog 48 #[.agg #[.int .i64 n, .int .i64 m]] w (Gives w (.int .i64 (rcode (okRat n m))))) := fun w => ratCheck_any n m wn.1 wn.2 w
  by_cases he : es = 0
  · skip
    subst he
    have hok : okZ a = true ∧ a 1 ≠ noneB ∧ ss = spF a := by
      unfold firstsZ at hs
      cases k : okZ a
      · rw [k] at hs; simp at hs
      · rw [k] at hs
        by_cases k1 : a 1 = noneB
        · rw [if_pos rfl, if_pos k1] at hs; simp at hs
        · rw [if_pos rfl, if_neg k1] at hs; simp only [Prod.mk.injEq, and_true] at hs; exact ⟨rfl, k1, hs⟩
    obtain ⟨ok, h1, hss⟩ := hok
    have MX : Hid (∀ w, Calls Try.prog 47 #[.agg #[.int .i64 (a 0), .int .i64 (a 1), .int .i64 (a 2), .int .i64 (a 3), .int .i64 (a 4), .int .i64 (a 5)]] w (matC w 3 9 (zF a) 0)) := fun w => by
      have := zmatrix_any a w wa
      have e : matZ a = ⟨3, 9, zF a, 0⟩ := by unfold matZ; rw [if_pos (show okD 3 9 (zF a) = true from okZ_okD ok)]
      rw [e] at this; exact this
    cases kt : okRat n m
    · skip
      rw [kt] at CK
      simp only [rcode_f] at CK
      clear hs hss ok h1 wa wn wm kt
      unfold zoneV
      go_enter Try.func12, Try.ntmps12
      go_wp2_with (fail)
      refine calls_world (fun W => Below w.heap.size w W ∧ BoxZ W w.heap.size a ∧ BoxR W (w.heap.size + 1) n m) ⟨by (repeat' (first | (with_reducible assumption) | (with_reducible exact Below.refl _ _) | (with_reducible refine below_wov ?_ ?_ _) | (with_reducible refine below_drewN ?_ _) | (with_reducible refine Below.drew ?_) | (with_reducible refine Below.alloc ?_ ?_ _) | (with_reducible refine Below.setCell ?_ ?_ _) | (with_reducible exact Nat.le_refl _) | omega | (simp only [World.size_alloc, World.size_setCell, World.size_drew, Wov_size, World.heap_drewN]; omega))), (BoxZ.new (W := w) (t := 24) (by simp)).below (by (repeat' (first | (with_reducible assumption) | (with_reducible exact Below.refl _ _) | (with_reducible refine below_wov ?_ ?_ _) | (with_reducible refine below_drewN ?_ _) | (with_reducible refine Below.drew ?_) | (with_reducible refine Below.alloc ?_ ?_ _) | (with_reducible refine Below.setCell ?_ ?_ _) | (with_reducible exact Nat.le_refl _) | omega | (simp only [World.size_alloc, World.size_setCell, World.size_drew, Wov_size, World.heap_drewN]; omega)))), (BoxR.new (W := (World.alloc w (.cells #[.int .i64 (a 0), .int .i64 (a 1), .int .i64 (a 2), .int .i64 (a 3), .int .i64 (a 4), .int .i64 (a 5)] 24))) (t := 65) (by simp)).below (by (repeat' (first | (with_reducible assumption) | (with_reducible exact Below.refl _ _) | (with_reducible refine below_wov ?_ ?_ _) | (with_reducible refine below_drewN ?_ _) | (with_reducible refine Below.drew ?_) | (with_reducible refine Below.alloc ?_ ?_ _) | (with_reducible refine Below.setCell ?_ ?_ _) | (with_reducible exact Nat.le_refl _) | omega | (simp only [World.size_alloc, World.size_setCell, World.size_drew, Wov_size, World.heap_drewN]; omega))))⟩ ?_
      rintro W1 ⟨hb1, m1_0, m1_1⟩
      have hs1 := hb1.size
      have f1_0_lt := m1_0.lt
      have f1_0_c0 := m1_0.c0
      have f1_0_c1 := m1_0.c1
      have f1_0_c2 := m1_0.c2
      have f1_0_c3 := m1_0.c3
      have f1_0_c4 := m1_0.c4
      have f1_0_c5 := m1_0.c5
      have f1_1_lt := m1_1.lt
      have f1_1_c0 := m1_1.c0
      have f1_1_c1 := m1_1.c1
      refine (HA.out _).mono ?_; rintro e w' ⟨rfl, q0, rfl⟩
      go_wp2_with (fail)
      refine calls_world (fun W => Below w.heap.size w W ∧ BoxZ W w.heap.size a ∧ BoxR W (w.heap.size + 1) n m) ⟨by (repeat' (first | (with_reducible assumption) | (with_reducible exact Below.refl _ _) | (with_reducible refine below_wov ?_ ?_ _) | (with_reducible refine below_drewN ?_ _) | (with_reducible refine Below.drew ?_) | (with_reducible refine Below.alloc ?_ ?_ _) | (with_reducible refine Below.setCell ?_ ?_ _) | (with_reducible exact Nat.le_refl _) | omega | (simp only [World.size_alloc, World.size_setCell, World.size_drew, Wov_size, World.heap_drewN]; omega))), m1_0.below (by (repeat' (first | (with_reducible assumption) | (with_reducible exact Below.refl _ _) | (with_reducible refine below_wov ?_ ?_ _) | (with_reducible refine below_drewN ?_ _) | (with_reducible refine Below.drew ?_) | (with_reducible refine Below.alloc ?_ ?_ _) | (with_reducible refine Below.setCell ?_ ?_ _) | (with_reducible exact Nat.le_refl _) | omega | (simp only [World.size_alloc, World.size_setCell, World.size_drew, Wov_size, World.heap_drewN]; omega)))), m1_1.below (by (repeat' (first | (with_reducible assumption) | (with_reducible exact Below.refl _ _) | (with_reducible refine below_wov ?_ ?_ _) | (with_reducible refine below_drewN ?_ _) | (with_reducible refine Below.drew ?_) | (with_reducible refine Below.alloc ?_ ?_ _) | (with_reducible refine Below.setCell ?_ ?_ _) | (with_reducible exact Nat.le_refl _) | omega | (simp only [World.size_alloc, World.size_setCell, World.size_drew, Wov_size, World.heap_drewN]; omega))))⟩ ?_
      rintro W2 ⟨hb2, m2_0, m2_1⟩
      clear hb1 f1_0_lt f1_0_c0 f1_0_c1 f1_0_c2 f1_0_c3 f1_0_c4 f1_0_c5 f1_1_lt f1_1_c0 f1_1_c1 m1_0 m1_1 hs1
      have hs2 := hb2.size
      have f2_0_lt := m2_0.lt
      have f2_0_c0 := m2_0.c0
      have f2_0_c1 := m2_0.c1
      have f2_0_c2 := m2_0.c2
      have f2_0_c3 := m2_0.c3
      have f2_0_c4 := m2_0.c4
      have f2_0_c5 := m2_0.c5
      have f2_1_lt := m2_1.lt
      have f2_1_c0 := m2_1.c0
      have f2_1_c1 := m2_1.c1
      refine (Cs.out _).mono ?_; rintro e w' ⟨rfl, qs, rfl⟩
      go_wp2_with (fail)
      obtain ⟨As, hAs⟩ : ∃ A, W2.heap.size + qs.bl.size = A := ⟨_, rfl⟩
      rw [hAs]
      refine calls_world (fun W => Below w.heap.size w W ∧ BoxZ W w.heap.size a ∧ BoxR W (w.heap.size + 1) n m ∧ BoxS W As ss.lo ss.ls ss.hi ss.hs ss.op) ⟨by (repeat' (first | (with_reducible assumption) | (with_reducible exact Below.refl _ _) | (with_reducible refine below_wov ?_ ?_ _) | (with_reducible refine below_drewN ?_ _) | (with_reducible refine Below.drew ?_) | (with_reducible refine Below.alloc ?_ ?_ _) | (with_reducible refine Below.setCell ?_ ?_ _) | (with_reducible exact Nat.le_refl _) | omega | (simp only [World.size_alloc, World.size_setCell, World.size_drew, Wov_size, World.heap_drewN]; omega))), m2_0.below (by (repeat' (first | (with_reducible assumption) | (with_reducible exact Below.refl _ _) | (with_reducible refine below_wov ?_ ?_ _) | (with_reducible refine below_drewN ?_ _) | (with_reducible refine Below.drew ?_) | (with_reducible refine Below.alloc ?_ ?_ _) | (with_reducible refine Below.setCell ?_ ?_ _) | (with_reducible exact Nat.le_refl _) | omega | (simp only [World.size_alloc, World.size_setCell, World.size_drew, Wov_size, World.heap_drewN]; omega)))), m2_1.below (by (repeat' (first | (with_reducible assumption) | (with_reducible exact Below.refl _ _) | (with_reducible refine below_wov ?_ ?_ _) | (with_reducible refine below_drewN ?_ _) | (with_reducible refine Below.drew ?_) | (with_reducible refine Below.alloc ?_ ?_ _) | (with_reducible refine Below.setCell ?_ ?_ _) | (with_reducible exact Nat.le_refl _) | omega | (simp only [World.size_alloc, World.size_setCell, World.size_drew, Wov_size, World.heap_drewN]; omega)))), (BoxS.new (by rw [← hAs]; (try simp only [Wov_size])))⟩ ?_
      rintro W3 ⟨hb3, m3_0, m3_1, m3_2⟩
      clear hb2 f2_0_lt f2_0_c0 f2_0_c1 f2_0_c2 f2_0_c3 f2_0_c4 f2_0_c5 f2_1_lt f2_1_c0 f2_1_c1 m2_0 m2_1 hs2
      have hs3 := hb3.size
      have f3_0_lt := m3_0.lt
      have f3_0_c0 := m3_0.c0
      have f3_0_c1 := m3_0.c1
      have f3_0_c2 := m3_0.c2
      have f3_0_c3 := m3_0.c3
      have f3_0_c4 := m3_0.c4
      have f3_0_c5 := m3_0.c5
      have f3_1_lt := m3_1.lt
      have f3_1_c0 := m3_1.c0
      have f3_1_c1 := m3_1.c1
      have f3_2_lt := m3_2.lt
      have f3_2_c0 := m3_2.c0
      have f3_2_c1 := m3_2.c1
      have f3_2_c2 := m3_2.c2
      have f3_2_c3 := m3_2.c3
      have f3_2_c4 := m3_2.c4
      clear hAs HA Cs
      refine (MX.out _).mono ?_; rintro e w' ⟨⟨pm, cm, rfl, ho⟩, qm, rfl⟩
      have tpm := ho.slp
      clear ho
      go_wp2_with (fail)
      obtain ⟨Am, hAm⟩ : ∃ A, W3.heap.size + qm.bl.size = A := ⟨_, rfl⟩
      rw [hAm]
      refine calls_world (fun W => Below w.heap.size w W ∧ BoxZ W w.heap.size a ∧ BoxR W (w.heap.size + 1) n m ∧ BoxS W As ss.lo ss.ls ss.hi ss.hs ss.op ∧ BoxM W Am 3 pm 9 cm (zF a)) ⟨by (repeat' (first | (with_reducible assumption) | (with_reducible exact Below.refl _ _) | (with_reducible refine below_wov ?_ ?_ _) | (with_reducible refine below_drewN ?_ _) | (with_reducible refine Below.drew ?_) | (with_reducible refine Below.alloc ?_ ?_ _) | (with_reducible refine Below.setCell ?_ ?_ _) | (with_reducible exact Nat.le_refl _) | omega | (simp only [World.size_alloc, World.size_setCell, World.size_drew, Wov_size, World.heap_drewN]; omega))), m3_0.below (by (repeat' (first | (with_reducible assumption) | (with_reducible exact Below.refl _ _) | (with_reducible refine below_wov ?_ ?_ _) | (with_reducible refine below_drewN ?_ _) | (with_reducible refine Below.drew ?_) | (with_reducible refine Below.alloc ?_ ?_ _) | (with_reducible refine Below.setCell ?_ ?_ _) | (with_reducible exact Nat.le_refl _) | omega | (simp only [World.size_alloc, World.size_setCell, World.size_drew, Wov_size, World.heap_drewN]; omega)))), m3_1.below (by (repeat' (first | (with_reducible assumption) | (with_reducible exact Below.refl _ _) | (with_reducible refine below_wov ?_ ?_ _) | (with_reducible refine below_drewN ?_ _) | (with_reducible refine Below.drew ?_) | (with_reducible refine Below.alloc ?_ ?_ _) | (with_reducible refine Below.setCell ?_ ?_ _) | (with_reducible exact Nat.le_refl _) | omega | (simp only [World.size_alloc, World.size_setCell, World.size_drew, Wov_size, World.heap_drewN]; omega)))), m3_2.below (by (repeat' (first | (with_reducible assumption) | (with_reducible exact Below.refl _ _) | (with_reducible refine below_wov ?_ ?_ _) | (with_reducible refine below_drewN ?_ _) | (with_reducible refine Below.drew ?_) | (with_reducible refine Below.alloc ?_ ?_ _) | (with_reducible refine Below.setCell ?_ ?_ _) | (with_reducible exact Nat.le_refl _) | omega | (simp only [World.size_alloc, World.size_setCell, World.size_drew, Wov_size, World.heap_drewN]; omega)))), BoxM.new (tpm) (by rw [← hAm]; (try simp only [Wov_size]))⟩ ?_
      rintro W4 ⟨hb4, m4_0, m4_1, m4_2, m4_3⟩
      clear hb3 f3_0_lt f3_0_c0 f3_0_c1 f3_0_c2 f3_0_c3 f3_0_c4 f3_0_c5 f3_1_lt f3_1_c0 f3_1_c1 f3_2_lt f3_2_c0 f3_2_c1 f3_2_c2 f3_2_c3 f3_2_c4 m3_0 m3_1 m3_2 hs3
      have hs4 := hb4.size
      have f4_0_lt := m4_0.lt
      have f4_0_c0 := m4_0.c0
      have f4_0_c1 := m4_0.c1
      have f4_0_c2 := m4_0.c2
      have f4_0_c3 := m4_0.c3
      have f4_0_c4 := m4_0.c4
      have f4_0_c5 := m4_0.c5
      have f4_1_lt := m4_1.lt
      have f4_1_c0 := m4_1.c0
      have f4_1_c1 := m4_1.c1
      have f4_2_lt := m4_2.lt
      have f4_2_c0 := m4_2.c0
      have f4_2_c1 := m4_2.c1
      have f4_2_c2 := m4_2.c2
      have f4_2_c3 := m4_2.c3
      have f4_2_c4 := m4_2.c4
      have f4_3_lt := m4_3.lt
      have f4_3_c0 := m4_3.c0
      have f4_3_c1 := m4_3.c1
      clear hAm tpm
      refine (CK.out _).mono ?_; rintro e w' ⟨rfl, qk, rfl⟩
      clear CK MX
      go_wp2
      all_goals
        go_ret
        exact gives_bool (by simp) (by (repeat' (first | (with_reducible assumption) | (with_reducible exact Below.refl _ _) | (with_reducible refine below_wov ?_ ?_ _) | (with_reducible refine below_drewN ?_ _) | (with_reducible refine Below.drew ?_) | (with_reducible refine Below.alloc ?_ ?_ _) | (with_reducible refine Below.setCell ?_ ?_ _) | (with_reducible exact Nat.le_refl _) | omega | (simp only [World.size_alloc, World.size_setCell, World.size_drew, Wov_size, World.heap_drewN]; omega))))
    · skip
      rw [kt] at CK
      simp only [rcode_t] at CK
      obtain ⟨b1, b2, b3, b4⟩ := first_bw ok h1
      obtain ⟨F, hF⟩ : ∃ F, F = (spF a).bw.f := ⟨_, rfl⟩
      rw [← hF] at b4
      obtain ⟨G, hG⟩ : ∃ G, G = (dropM 3 2 (zF a)).f := ⟨_, rfl⟩
      have hcl : ∃ c, closeM (3 : Nat) (3 * 3) (zF a) = ⟨(3 : Nat), 3 * 3, c, 0⟩ ∧ ∀ x, x < 9 → c x = zF a x := by
        rcases closeM_cases (okZ_okD ok) with ⟨c, hc, K⟩ | ⟨hc, hno⟩
        · refine ⟨c, hc, fun x hx => ?_⟩
          obtain ⟨i, j, hi, hj, rfl⟩ := at_place (n := 3) hx
          exact eb_inj (ele_antisymm (K.closed.2 i j hi hj) ((K.iff (okZ_iff.1 ok).2).1 (under_refl 3 _) i j hi hj))
        · exact absurd (under_refl 3 _) (none_no hno (okZ_iff.1 ok).2)
      obtain ⟨c, hc, hcz⟩ := hcl
      have hD : dropM 3 2 (zF a) = ⟨2, 4, G, 0⟩ := by
        have h : dropM 3 2 (zF a) = ⟨((3 - 1 : Nat) : Int), (3 - 1) * (3 - 1), fromG 3 (3 - 1) (skip 2) c, 0⟩ := by unfold dropM; rw [hc]; rfl
        rw [hG, h]; rfl
      have hGx : ∀ x, x < 4 → G x = ownF a x := fun x hx => by
        have h : G = fromG 3 2 (skip 2) c := by
          rw [hG]; unfold dropM; rw [hc]; rfl
        obtain ⟨z0, z1, z2, z3, z4, _⟩ := zF_vals a
        rw [h]
        have : x = 0 ∨ x = 1 ∨ x = 2 ∨ x = 3 := by omega
        rcases this with rfl | rfl | rfl | rfl
        · show c 0 = 1; rw [hcz 0 (by omega), z0]
        · show c 1 = a 1; rw [hcz 1 (by omega), z1]
        · show c 3 = a 0; rw [hcz 3 (by omega), z3]
        · show c 4 = 1; rw [hcz 4 (by omega), z4]
      obtain ⟨oF, oG, kF, kFG, iFG, ep, aR⟩ := firsts_law ok h1 b4 hGx
      obtain ⟨⟨T, e0⟩, hT⟩ : ∃ r, r = pickZ a := ⟨_, rfl⟩
      rw [← hT] at kF ep aR
      dsimp only at kF ep aR
      subst ep
      obtain ⟨_, fT, _, _⟩ := (zpicks_law hT).2 rfl
      have fT0 := fT 0 (by omega)
      have fT1 := fT 1 (by omega)
      have oT := allRat_iff.1 aR 0 (by omega)
      obtain ⟨p0, hp0⟩ : ∃ p, p = (T 0).1 := ⟨_, rfl⟩
      obtain ⟨p1, hp1⟩ : ∃ p, p = (T 0).2 := ⟨_, rfl⟩
      obtain ⟨p2, hp2⟩ : ∃ p, p = (T 1).1 := ⟨_, rfl⟩
      obtain ⟨p3, hp3⟩ : ∃ p, p = (T 1).2 := ⟨_, rfl⟩
      rw [← hp0, ← hp1] at oT fT0
      have PK : Hid (∀ w, Calls Try.prog 49 #[.agg #[.int .i64 (a 0), .int .i64 (a 1), .int .i64 (a 2), .int .i64 (a 3), .int .i64 (a 4), .int .i64 (a 5)]] w (Gives w (.tuple #[.agg #[.int .i64 p0, .int .i64 p1, .int .i64 p2, .int .i64 p3], .int .i64 0]))) := fun w => by
        have := zpick_any a w wa
        rw [← hT] at this
        unfold pointR pointV at this
        simp only [← hp0, ← hp1, ← hp2, ← hp3] at this
        exact this
      have TP : Hid (∀ w, Calls Try.prog 50 #[.int .i64 2] w (topPost w 2)) := fun w => top_ok 2 w (by omega) (by omega)
      have fF : Fits 4 F := fun x hx => mayB_fits (okD_may (n := (2 : Nat)) (N := 2 * 2) oF x hx)
      have fG : Fits 4 G := fun x hx => mayB_fits (okD_may (n := (2 : Nat)) (N := 2 * 2) oG x hx)
      have bF : fits64 (spF a).lo ∧ fits64 (spF a).hi := by
        obtain ⟨c1, c2, c3, c4, c5⟩ := spanB_bd (spF_ok ok h1)
        refine ⟨by unfold fits64; omega, ?_⟩
        cases ho : (spF a).op
        · have := c5 ho; unfold fits64; omega
        · unfold spF at ho ⊢
          have k0 : a 0 = noneB := by simpa using ho
          show fits64 (if a 0 = noneB then 0 else bnum (a 0))
          rw [if_pos k0]; decide
      have BT : Hid (∀ p cap w, SlP w p 4 (topF 2) → Calls Try.prog 51 #[.agg #[.int .i64 2, .slice p 4 cap], .int .i64 1, .agg #[.int .i64 (spF a).lo, .bool (spF a).ls, .int .i64 (spF a).hi, .bool (spF a).hs, .bool (spF a).op]] w (matC w 2 4 F 0)) := fun p cap w hS => by
        have := between_any 2 p 4 cap (topF 2) 1 (spF a).lo (spF a).ls (spF a).hi (spF a).hs (spF a).op w (by decide) hS (fun x hx => by
          have : x = 0 ∨ x = 1 ∨ x = 2 ∨ x = 3 := by omega
          rcases this with rfl | rfl | rfl | rfl <;> decide) (by omega) bF.1 bF.2
        have e : betweenM 2 4 (topF 2) 1 (spF a).lo (spF a).ls (spF a).hi (spF a).hs (spF a).op = ⟨2, 4, F, 0⟩ := by
          show (spF a).bw = _
          rw [hF]
          have hr : ∀ r : MR, r.n = 2 → r.N = 4 → r.e = 0 → r = ⟨2, 4, r.f, 0⟩ := by
            rintro ⟨_, _, _, _⟩ h1 h2 h3
            dsimp only at h1 h2 h3
            subst h1; subst h2; subst h3; rfl
          exact hr _ b1 b2 b3
        rw [e] at this; exact this
      have DR : Hid (∀ p cap w, SlP w p 9 (zF a) → Calls Try.prog 52 #[.agg #[.int .i64 3, .slice p 9 cap], .int .i64 2] w (matC w 2 4 G 0)) := fun p cap w hS => by
        have := pdrop_any 3 2 9 p cap (zF a) w rfl (by omega) (by omega) (by omega) (okZ_okD ok) hS
        rw [hD] at this; exact this
      have KP : ∀ (f : Nat → Int) (x y : Int) (b : Bool), okD 2 4 f = true → Fits 4 f → okRat x y = true → fits64 x → fits64 y → keptAll 2 f (fun _ => (x, y)) = b → ∀ p cap w l, SlP w p 4 f → SlR w (some ⟨l, 0, none⟩) 1 (fun _ => (x, y)) → Calls Try.prog 53 #[.agg #[.int .i64 2, .slice p 4 cap], .slice (some ⟨l, 0, none⟩) 1 1] w (Gives w (.tuple #[.bool b, .int .i64 0])) := fun f x y b h1 h2 h3 h4 h5 h6 p cap w l h7 h8 => by
        have := keepsD_any 2 4 p cap f (some ⟨l, 0, none⟩) 1 1 (fun _ => (x, y)) w (by decide) h7 h2 (by omega) h8 (fun _ _ => ⟨h4, h5⟩) (by omega)
        have e := keepsD_of (m := 2) (f := f) (M := 1) h1 (allRat_one h3) rfl
        rw [h6] at e
        rw [show keepsD 2 4 f 1 (fun _ => (x, y)) = (b, 0) from e] at this
        exact this
      obtain ⟨k, hk⟩ : ∃ k, k = keptAll 2 F (fun _ => (n, m)) := ⟨_, rfl⟩
      have K1 := Lib.hid (KP F p0 p1 true oF fF oT fT0.1 fT0.2 (by rw [kept_one (U := T) (show (p0, p1) = T 0 by rw [hp0, hp1])]; exact kF))
      have K2 := Lib.hid (KP G n m k oG fG kt wn wm (by rw [← kFG]; exact hk.symm))
      have K3 := Lib.hid (KP F n m k oF fF kt wn wm hk.symm)
      have IN : Hid (∀ p cap p' cap' w, SlP w p 4 F → SlP w p' 4 G → Calls Try.prog 54 #[.agg #[.int .i64 2, .slice p 4 cap], .agg #[.int .i64 2, .slice p' 4 cap']] w (Gives w (.tuple #[.bool true, .int .i64 0]))) := fun p cap p' cap' w h1 h2 => by
        have := in_any 2 p 4 cap F 2 p' 4 cap' G w (by decide) (by decide) h1 h2 fF fG (by omega) (by omega)
        rw [show inR 2 4 F 2 4 G = (inB 2 F G, 0) from inR_ok (n := 2) (twoE_zero oF oG), iFG] at this
        exact this
      clear hs b1 b2 b3 b4 hF hG hcz hc hD hGx oF oG kF kFG iFG aR hT fT fT0 fT1 oT hp0 hp1 hp2 hp3 fF fG bF KP hk ok h1 wa wn wm kt
      rw [← hss] at BT
      clear hss
      unfold zoneV
      go_enter Try.func12, Try.ntmps12
      go_wp2_with (fail)
      refine calls_world (fun W => Below w.heap.size w W ∧ BoxZ W w.heap.size a ∧ BoxR W (w.heap.size + 1) n m) ⟨by (repeat' (first | (with_reducible assumption) | (with_reducible exact Below.refl _ _) | (with_reducible refine below_wov ?_ ?_ _) | (with_reducible refine below_drewN ?_ _) | (with_reducible refine Below.drew ?_) | (with_reducible refine Below.alloc ?_ ?_ _) | (with_reducible refine Below.setCell ?_ ?_ _) | (with_reducible exact Nat.le_refl _) | omega | (simp only [World.size_alloc, World.size_setCell, World.size_drew, Wov_size, World.heap_drewN]; omega))), (BoxZ.new (W := w) (t := 24) (by simp)).below (by (repeat' (first | (with_reducible assumption) | (with_reducible exact Below.refl _ _) | (with_reducible refine below_wov ?_ ?_ _) | (with_reducible refine below_drewN ?_ _) | (with_reducible refine Below.drew ?_) | (with_reducible refine Below.alloc ?_ ?_ _) | (with_reducible refine Below.setCell ?_ ?_ _) | (with_reducible exact Nat.le_refl _) | omega | (simp only [World.size_alloc, World.size_setCell, World.size_drew, Wov_size, World.heap_drewN]; omega)))), (BoxR.new (W := (World.alloc w (.cells #[.int .i64 (a 0), .int .i64 (a 1), .int .i64 (a 2), .int .i64 (a 3), .int .i64 (a 4), .int .i64 (a 5)] 24))) (t := 65) (by simp)).below (by (repeat' (first | (with_reducible assumption) | (with_reducible exact Below.refl _ _) | (with_reducible refine below_wov ?_ ?_ _) | (with_reducible refine below_drewN ?_ _) | (with_reducible refine Below.drew ?_) | (with_reducible refine Below.alloc ?_ ?_ _) | (with_reducible refine Below.setCell ?_ ?_ _) | (with_reducible exact Nat.le_refl _) | omega | (simp only [World.size_alloc, World.size_setCell, World.size_drew, Wov_size, World.heap_drewN]; omega))))⟩ ?_
      rintro W1 ⟨hb1, m1_0, m1_1⟩
      have hs1 := hb1.size
      have f1_0_lt := m1_0.lt
      have f1_0_c0 := m1_0.c0
      have f1_0_c1 := m1_0.c1
      have f1_0_c2 := m1_0.c2
      have f1_0_c3 := m1_0.c3
      have f1_0_c4 := m1_0.c4
      have f1_0_c5 := m1_0.c5
      have f1_1_lt := m1_1.lt
      have f1_1_c0 := m1_1.c0
      have f1_1_c1 := m1_1.c1
      refine (HA.out _).mono ?_; rintro e w' ⟨rfl, q0, rfl⟩
      go_wp2_with (fail)
      refine calls_world (fun W => Below w.heap.size w W ∧ BoxZ W w.heap.size a ∧ BoxR W (w.heap.size + 1) n m) ⟨by (repeat' (first | (with_reducible assumption) | (with_reducible exact Below.refl _ _) | (with_reducible refine below_wov ?_ ?_ _) | (with_reducible refine below_drewN ?_ _) | (with_reducible refine Below.drew ?_) | (with_reducible refine Below.alloc ?_ ?_ _) | (with_reducible refine Below.setCell ?_ ?_ _) | (with_reducible exact Nat.le_refl _) | omega | (simp only [World.size_alloc, World.size_setCell, World.size_drew, Wov_size, World.heap_drewN]; omega))), m1_0.below (by (repeat' (first | (with_reducible assumption) | (with_reducible exact Below.refl _ _) | (with_reducible refine below_wov ?_ ?_ _) | (with_reducible refine below_drewN ?_ _) | (with_reducible refine Below.drew ?_) | (with_reducible refine Below.alloc ?_ ?_ _) | (with_reducible refine Below.setCell ?_ ?_ _) | (with_reducible exact Nat.le_refl _) | omega | (simp only [World.size_alloc, World.size_setCell, World.size_drew, Wov_size, World.heap_drewN]; omega)))), m1_1.below (by (repeat' (first | (with_reducible assumption) | (with_reducible exact Below.refl _ _) | (with_reducible refine below_wov ?_ ?_ _) | (with_reducible refine below_drewN ?_ _) | (with_reducible refine Below.drew ?_) | (with_reducible refine Below.alloc ?_ ?_ _) | (with_reducible refine Below.setCell ?_ ?_ _) | (with_reducible exact Nat.le_refl _) | omega | (simp only [World.size_alloc, World.size_setCell, World.size_drew, Wov_size, World.heap_drewN]; omega))))⟩ ?_
      rintro W2 ⟨hb2, m2_0, m2_1⟩
      clear hb1 f1_0_lt f1_0_c0 f1_0_c1 f1_0_c2 f1_0_c3 f1_0_c4 f1_0_c5 f1_1_lt f1_1_c0 f1_1_c1 m1_0 m1_1 hs1
      have hs2 := hb2.size
      have f2_0_lt := m2_0.lt
      have f2_0_c0 := m2_0.c0
      have f2_0_c1 := m2_0.c1
      have f2_0_c2 := m2_0.c2
      have f2_0_c3 := m2_0.c3
      have f2_0_c4 := m2_0.c4
      have f2_0_c5 := m2_0.c5
      have f2_1_lt := m2_1.lt
      have f2_1_c0 := m2_1.c0
      have f2_1_c1 := m2_1.c1
      refine (Cs.out _).mono ?_; rintro e w' ⟨rfl, qs, rfl⟩
      go_wp2_with (fail)
      obtain ⟨As, hAs⟩ : ∃ A, W2.heap.size + qs.bl.size = A := ⟨_, rfl⟩
      rw [hAs]
      refine calls_world (fun W => Below w.heap.size w W ∧ BoxZ W w.heap.size a ∧ BoxR W (w.heap.size + 1) n m ∧ BoxS W As ss.lo ss.ls ss.hi ss.hs ss.op) ⟨by (repeat' (first | (with_reducible assumption) | (with_reducible exact Below.refl _ _) | (with_reducible refine below_wov ?_ ?_ _) | (with_reducible refine below_drewN ?_ _) | (with_reducible refine Below.drew ?_) | (with_reducible refine Below.alloc ?_ ?_ _) | (with_reducible refine Below.setCell ?_ ?_ _) | (with_reducible exact Nat.le_refl _) | omega | (simp only [World.size_alloc, World.size_setCell, World.size_drew, Wov_size, World.heap_drewN]; omega))), m2_0.below (by (repeat' (first | (with_reducible assumption) | (with_reducible exact Below.refl _ _) | (with_reducible refine below_wov ?_ ?_ _) | (with_reducible refine below_drewN ?_ _) | (with_reducible refine Below.drew ?_) | (with_reducible refine Below.alloc ?_ ?_ _) | (with_reducible refine Below.setCell ?_ ?_ _) | (with_reducible exact Nat.le_refl _) | omega | (simp only [World.size_alloc, World.size_setCell, World.size_drew, Wov_size, World.heap_drewN]; omega)))), m2_1.below (by (repeat' (first | (with_reducible assumption) | (with_reducible exact Below.refl _ _) | (with_reducible refine below_wov ?_ ?_ _) | (with_reducible refine below_drewN ?_ _) | (with_reducible refine Below.drew ?_) | (with_reducible refine Below.alloc ?_ ?_ _) | (with_reducible refine Below.setCell ?_ ?_ _) | (with_reducible exact Nat.le_refl _) | omega | (simp only [World.size_alloc, World.size_setCell, World.size_drew, Wov_size, World.heap_drewN]; omega)))), (BoxS.new (by rw [← hAs]; (try simp only [Wov_size])))⟩ ?_
      rintro W3 ⟨hb3, m3_0, m3_1, m3_2⟩
      clear hb2 f2_0_lt f2_0_c0 f2_0_c1 f2_0_c2 f2_0_c3 f2_0_c4 f2_0_c5 f2_1_lt f2_1_c0 f2_1_c1 m2_0 m2_1 hs2
      have hs3 := hb3.size
      have f3_0_lt := m3_0.lt
      have f3_0_c0 := m3_0.c0
      have f3_0_c1 := m3_0.c1
      have f3_0_c2 := m3_0.c2
      have f3_0_c3 := m3_0.c3
      have f3_0_c4 := m3_0.c4
      have f3_0_c5 := m3_0.c5
      have f3_1_lt := m3_1.lt
      have f3_1_c0 := m3_1.c0
      have f3_1_c1 := m3_1.c1
      have f3_2_lt := m3_2.lt
      have f3_2_c0 := m3_2.c0
      have f3_2_c1 := m3_2.c1
      have f3_2_c2 := m3_2.c2
      have f3_2_c3 := m3_2.c3
      have f3_2_c4 := m3_2.c4
      clear hAs HA Cs
      refine (MX.out _).mono ?_; rintro e w' ⟨⟨pm, cm, rfl, ho⟩, qm, rfl⟩
      have tpm := ho.slp
      clear ho
      go_wp2_with (fail)
      obtain ⟨Am, hAm⟩ : ∃ A, W3.heap.size + qm.bl.size = A := ⟨_, rfl⟩
      rw [hAm]
      refine calls_world (fun W => Below w.heap.size w W ∧ BoxZ W w.heap.size a ∧ BoxR W (w.heap.size + 1) n m ∧ BoxS W As ss.lo ss.ls ss.hi ss.hs ss.op ∧ BoxM W Am 3 pm 9 cm (zF a)) ⟨by (repeat' (first | (with_reducible assumption) | (with_reducible exact Below.refl _ _) | (with_reducible refine below_wov ?_ ?_ _) | (with_reducible refine below_drewN ?_ _) | (with_reducible refine Below.drew ?_) | (with_reducible refine Below.alloc ?_ ?_ _) | (with_reducible refine Below.setCell ?_ ?_ _) | (with_reducible exact Nat.le_refl _) | omega | (simp only [World.size_alloc, World.size_setCell, World.size_drew, Wov_size, World.heap_drewN]; omega))), m3_0.below (by (repeat' (first | (with_reducible assumption) | (with_reducible exact Below.refl _ _) | (with_reducible refine below_wov ?_ ?_ _) | (with_reducible refine below_drewN ?_ _) | (with_reducible refine Below.drew ?_) | (with_reducible refine Below.alloc ?_ ?_ _) | (with_reducible refine Below.setCell ?_ ?_ _) | (with_reducible exact Nat.le_refl _) | omega | (simp only [World.size_alloc, World.size_setCell, World.size_drew, Wov_size, World.heap_drewN]; omega)))), m3_1.below (by (repeat' (first | (with_reducible assumption) | (with_reducible exact Below.refl _ _) | (with_reducible refine below_wov ?_ ?_ _) | (with_reducible refine below_drewN ?_ _) | (with_reducible refine Below.drew ?_) | (with_reducible refine Below.alloc ?_ ?_ _) | (with_reducible refine Below.setCell ?_ ?_ _) | (with_reducible exact Nat.le_refl _) | omega | (simp only [World.size_alloc, World.size_setCell, World.size_drew, Wov_size, World.heap_drewN]; omega)))), m3_2.below (by (repeat' (first | (with_reducible assumption) | (with_reducible exact Below.refl _ _) | (with_reducible refine below_wov ?_ ?_ _) | (with_reducible refine below_drewN ?_ _) | (with_reducible refine Below.drew ?_) | (with_reducible refine Below.alloc ?_ ?_ _) | (with_reducible refine Below.setCell ?_ ?_ _) | (with_reducible exact Nat.le_refl _) | omega | (simp only [World.size_alloc, World.size_setCell, World.size_drew, Wov_size, World.heap_drewN]; omega)))), BoxM.new (tpm) (by rw [← hAm]; (try simp only [Wov_size]))⟩ ?_
      rintro W4 ⟨hb4, m4_0, m4_1, m4_2, m4_3⟩
      clear hb3 f3_0_lt f3_0_c0 f3_0_c1 f3_0_c2 f3_0_c3 f3_0_c4 f3_0_c5 f3_1_lt f3_1_c0 f3_1_c1 f3_2_lt f3_2_c0 f3_2_c1 f3_2_c2 f3_2_c3 f3_2_c4 m3_0 m3_1 m3_2 hs3
      have hs4 := hb4.size
      have f4_0_lt := m4_0.lt
      have f4_0_c0 := m4_0.c0
      have f4_0_c1 := m4_0.c1
      have f4_0_c2 := m4_0.c2
      have f4_0_c3 := m4_0.c3
      have f4_0_c4 := m4_0.c4
      have f4_0_c5 := m4_0.c5
      have f4_1_lt := m4_1.lt
      have f4_1_c0 := m4_1.c0
      have f4_1_c1 := m4_1.c1
      have f4_2_lt := m4_2.lt
      have f4_2_c0 := m4_2.c0
      have f4_2_c1 := m4_2.c1
      have f4_2_c2 := m4_2.c2
      have f4_2_c3 := m4_2.c3
      have f4_2_c4 := m4_2.c4
      have f4_3_lt := m4_3.lt
      have f4_3_c0 := m4_3.c0
      have f4_3_c1 := m4_3.c1
      clear hAm tpm
      refine (CK.out _).mono ?_; rintro e w' ⟨rfl, qk, rfl⟩
      go_wp2_with (fail)
      refine calls_world (fun W => Below w.heap.size w W ∧ BoxZ W w.heap.size a ∧ BoxR W (w.heap.size + 1) n m ∧ BoxS W As ss.lo ss.ls ss.hi ss.hs ss.op ∧ BoxM W Am 3 pm 9 cm (zF a)) ⟨by (repeat' (first | (with_reducible assumption) | (with_reducible exact Below.refl _ _) | (with_reducible refine below_wov ?_ ?_ _) | (with_reducible refine below_drewN ?_ _) | (with_reducible refine Below.drew ?_) | (with_reducible refine Below.alloc ?_ ?_ _) | (with_reducible refine Below.setCell ?_ ?_ _) | (with_reducible exact Nat.le_refl _) | omega | (simp only [World.size_alloc, World.size_setCell, World.size_drew, Wov_size, World.heap_drewN]; omega))), m4_0.below (by (repeat' (first | (with_reducible assumption) | (with_reducible exact Below.refl _ _) | (with_reducible refine below_wov ?_ ?_ _) | (with_reducible refine below_drewN ?_ _) | (with_reducible refine Below.drew ?_) | (with_reducible refine Below.alloc ?_ ?_ _) | (with_reducible refine Below.setCell ?_ ?_ _) | (with_reducible exact Nat.le_refl _) | omega | (simp only [World.size_alloc, World.size_setCell, World.size_drew, Wov_size, World.heap_drewN]; omega)))), m4_1.below (by (repeat' (first | (with_reducible assumption) | (with_reducible exact Below.refl _ _) | (with_reducible refine below_wov ?_ ?_ _) | (with_reducible refine below_drewN ?_ _) | (with_reducible refine Below.drew ?_) | (with_reducible refine Below.alloc ?_ ?_ _) | (with_reducible refine Below.setCell ?_ ?_ _) | (with_reducible exact Nat.le_refl _) | omega | (simp only [World.size_alloc, World.size_setCell, World.size_drew, Wov_size, World.heap_drewN]; omega)))), m4_2.below (by (repeat' (first | (with_reducible assumption) | (with_reducible exact Below.refl _ _) | (with_reducible refine below_wov ?_ ?_ _) | (with_reducible refine below_drewN ?_ _) | (with_reducible refine Below.drew ?_) | (with_reducible refine Below.alloc ?_ ?_ _) | (with_reducible refine Below.setCell ?_ ?_ _) | (with_reducible exact Nat.le_refl _) | omega | (simp only [World.size_alloc, World.size_setCell, World.size_drew, Wov_size, World.heap_drewN]; omega)))), m4_3.below (by (repeat' (first | (with_reducible assumption) | (with_reducible exact Below.refl _ _) | (with_reducible refine below_wov ?_ ?_ _) | (with_reducible refine below_drewN ?_ _) | (with_reducible refine Below.drew ?_) | (with_reducible refine Below.alloc ?_ ?_ _) | (with_reducible refine Below.setCell ?_ ?_ _) | (with_reducible exact Nat.le_refl _) | omega | (simp only [World.size_alloc, World.size_setCell, World.size_drew, Wov_size, World.heap_drewN]; omega))))⟩ ?_
      rintro W5 ⟨hb5, m5_0, m5_1, m5_2, m5_3⟩
      clear hb4 f4_0_lt f4_0_c0 f4_0_c1 f4_0_c2 f4_0_c3 f4_0_c4 f4_0_c5 f4_1_lt f4_1_c0 f4_1_c1 f4_2_lt f4_2_c0 f4_2_c1 f4_2_c2 f4_2_c3 f4_2_c4 f4_3_lt f4_3_c0 f4_3_c1 m4_0 m4_1 m4_2 m4_3 hs4
      have hs5 := hb5.size
      have f5_0_lt := m5_0.lt
      have f5_0_c0 := m5_0.c0
      have f5_0_c1 := m5_0.c1
      have f5_0_c2 := m5_0.c2
      have f5_0_c3 := m5_0.c3
      have f5_0_c4 := m5_0.c4
      have f5_0_c5 := m5_0.c5
      have f5_1_lt := m5_1.lt
      have f5_1_c0 := m5_1.c0
      have f5_1_c1 := m5_1.c1
      have f5_2_lt := m5_2.lt
      have f5_2_c0 := m5_2.c0
      have f5_2_c1 := m5_2.c1
      have f5_2_c2 := m5_2.c2
      have f5_2_c3 := m5_2.c3
      have f5_2_c4 := m5_2.c4
      have f5_3_lt := m5_3.lt
      have f5_3_c0 := m5_3.c0
      have f5_3_c1 := m5_3.c1
      refine (PK.out _).mono ?_; rintro e w' ⟨rfl, qp, rfl⟩
      go_wp2_with (fail)
      obtain ⟨Ap, hAp⟩ : ∃ A, W5.heap.size + qp.bl.size = A := ⟨_, rfl⟩
      rw [hAp]
      refine calls_world (fun W => Below w.heap.size w W ∧ BoxR W (w.heap.size + 1) n m ∧ BoxS W As ss.lo ss.ls ss.hi ss.hs ss.op ∧ BoxM W Am 3 pm 9 cm (zF a) ∧ PtAt W Ap p0 p1 p2 p3) ⟨by (repeat' (first | (with_reducible assumption) | (with_reducible exact Below.refl _ _) | (with_reducible refine below_wov ?_ ?_ _) | (with_reducible refine below_drewN ?_ _) | (with_reducible refine Below.drew ?_) | (with_reducible refine Below.alloc ?_ ?_ _) | (with_reducible refine Below.setCell ?_ ?_ _) | (with_reducible exact Nat.le_refl _) | omega | (simp only [World.size_alloc, World.size_setCell, World.size_drew, Wov_size, World.heap_drewN]; omega))), m5_1.below (by (repeat' (first | (with_reducible assumption) | (with_reducible exact Below.refl _ _) | (with_reducible refine below_wov ?_ ?_ _) | (with_reducible refine below_drewN ?_ _) | (with_reducible refine Below.drew ?_) | (with_reducible refine Below.alloc ?_ ?_ _) | (with_reducible refine Below.setCell ?_ ?_ _) | (with_reducible exact Nat.le_refl _) | omega | (simp only [World.size_alloc, World.size_setCell, World.size_drew, Wov_size, World.heap_drewN]; omega)))), m5_2.below (by (repeat' (first | (with_reducible assumption) | (with_reducible exact Below.refl _ _) | (with_reducible refine below_wov ?_ ?_ _) | (with_reducible refine below_drewN ?_ _) | (with_reducible refine Below.drew ?_) | (with_reducible refine Below.alloc ?_ ?_ _) | (with_reducible refine Below.setCell ?_ ?_ _) | (with_reducible exact Nat.le_refl _) | omega | (simp only [World.size_alloc, World.size_setCell, World.size_drew, Wov_size, World.heap_drewN]; omega)))), m5_3.below (by (repeat' (first | (with_reducible assumption) | (with_reducible exact Below.refl _ _) | (with_reducible refine below_wov ?_ ?_ _) | (with_reducible refine below_drewN ?_ _) | (with_reducible refine Below.drew ?_) | (with_reducible refine Below.alloc ?_ ?_ _) | (with_reducible refine Below.setCell ?_ ?_ _) | (with_reducible exact Nat.le_refl _) | omega | (simp only [World.size_alloc, World.size_setCell, World.size_drew, Wov_size, World.heap_drewN]; omega)))), PtAt.new (by rw [← hAp]; (try simp only [Wov_size]))⟩ ?_
      rintro W6 ⟨hb6, m6_0, m6_1, m6_2, m6_3⟩
      clear hb5 f5_0_lt f5_0_c0 f5_0_c1 f5_0_c2 f5_0_c3 f5_0_c4 f5_0_c5 f5_1_lt f5_1_c0 f5_1_c1 f5_2_lt f5_2_c0 f5_2_c1 f5_2_c2 f5_2_c3 f5_2_c4 f5_3_lt f5_3_c0 f5_3_c1 m5_0 m5_1 m5_2 m5_3 hs5
      have hs6 := hb6.size
      have f6_0_lt := m6_0.lt
      have f6_0_c0 := m6_0.c0
      have f6_0_c1 := m6_0.c1
      have f6_1_lt := m6_1.lt
      have f6_1_c0 := m6_1.c0
      have f6_1_c1 := m6_1.c1
      have f6_1_c2 := m6_1.c2
      have f6_1_c3 := m6_1.c3
      have f6_1_c4 := m6_1.c4
      have f6_2_lt := m6_2.lt
      have f6_2_c0 := m6_2.c0
      have f6_2_c1 := m6_2.c1
      have f6_3_lt := m6_3.lt
      have f6_3_c0 := m6_3.c0
      have f6_3_c1 := m6_3.c1
      have f6_3_c2 := m6_3.c2
      have f6_3_c3 := m6_3.c3
      clear hAp CK PK MX
      refine (TP.out _).mono ?_; rintro e w' ⟨pt0, ct, rfl, hAt, hBt, hHt, qt, rfl⟩
      have tpt := slp_of hHt hBt
      clear hAt hBt hHt TP
      go_wp2_with (fail)
      obtain ⟨At, hAt⟩ : ∃ A, W6.heap.size + qt.bl.size = A := ⟨_, rfl⟩
      rw [hAt]
      refine calls_world (fun W => Below w.heap.size w W ∧ BoxR W (w.heap.size + 1) n m ∧ BoxS W As ss.lo ss.ls ss.hi ss.hs ss.op ∧ BoxM W Am 3 pm 9 cm (zF a) ∧ PtAt W Ap p0 p1 p2 p3 ∧ BoxM W At 2 (some ⟨pt0, 0, none⟩) 4 ct (topF 2)) ⟨by (repeat' (first | (with_reducible assumption) | (with_reducible exact Below.refl _ _) | (with_reducible refine below_wov ?_ ?_ _) | (with_reducible refine below_drewN ?_ _) | (with_reducible refine Below.drew ?_) | (with_reducible refine Below.alloc ?_ ?_ _) | (with_reducible refine Below.setCell ?_ ?_ _) | (with_reducible exact Nat.le_refl _) | omega | (simp only [World.size_alloc, World.size_setCell, World.size_drew, Wov_size, World.heap_drewN]; omega))), m6_0.below (by (repeat' (first | (with_reducible assumption) | (with_reducible exact Below.refl _ _) | (with_reducible refine below_wov ?_ ?_ _) | (with_reducible refine below_drewN ?_ _) | (with_reducible refine Below.drew ?_) | (with_reducible refine Below.alloc ?_ ?_ _) | (with_reducible refine Below.setCell ?_ ?_ _) | (with_reducible exact Nat.le_refl _) | omega | (simp only [World.size_alloc, World.size_setCell, World.size_drew, Wov_size, World.heap_drewN]; omega)))), m6_1.below (by (repeat' (first | (with_reducible assumption) | (with_reducible exact Below.refl _ _) | (with_reducible refine below_wov ?_ ?_ _) | (with_reducible refine below_drewN ?_ _) | (with_reducible refine Below.drew ?_) | (with_reducible refine Below.alloc ?_ ?_ _) | (with_reducible refine Below.setCell ?_ ?_ _) | (with_reducible exact Nat.le_refl _) | omega | (simp only [World.size_alloc, World.size_setCell, World.size_drew, Wov_size, World.heap_drewN]; omega)))), m6_2.below (by (repeat' (first | (with_reducible assumption) | (with_reducible exact Below.refl _ _) | (with_reducible refine below_wov ?_ ?_ _) | (with_reducible refine below_drewN ?_ _) | (with_reducible refine Below.drew ?_) | (with_reducible refine Below.alloc ?_ ?_ _) | (with_reducible refine Below.setCell ?_ ?_ _) | (with_reducible exact Nat.le_refl _) | omega | (simp only [World.size_alloc, World.size_setCell, World.size_drew, Wov_size, World.heap_drewN]; omega)))), m6_3.below (by (repeat' (first | (with_reducible assumption) | (with_reducible exact Below.refl _ _) | (with_reducible refine below_wov ?_ ?_ _) | (with_reducible refine below_drewN ?_ _) | (with_reducible refine Below.drew ?_) | (with_reducible refine Below.alloc ?_ ?_ _) | (with_reducible refine Below.setCell ?_ ?_ _) | (with_reducible exact Nat.le_refl _) | omega | (simp only [World.size_alloc, World.size_setCell, World.size_drew, Wov_size, World.heap_drewN]; omega)))), BoxM.new (tpt) (by rw [← hAt]; (try simp only [Wov_size]))⟩ ?_
      rintro W7 ⟨hb7, m7_0, m7_1, m7_2, m7_3, m7_4⟩
      clear hb6 f6_0_lt f6_0_c0 f6_0_c1 f6_1_lt f6_1_c0 f6_1_c1 f6_1_c2 f6_1_c3 f6_1_c4 f6_2_lt f6_2_c0 f6_2_c1 f6_3_lt f6_3_c0 f6_3_c1 f6_3_c2 f6_3_c3 m6_0 m6_1 m6_2 m6_3 hs6
      have hs7 := hb7.size
      have f7_0_lt := m7_0.lt
      have f7_0_c0 := m7_0.c0
      have f7_0_c1 := m7_0.c1
      have f7_1_lt := m7_1.lt
      have f7_1_c0 := m7_1.c0
      have f7_1_c1 := m7_1.c1
      have f7_1_c2 := m7_1.c2
      have f7_1_c3 := m7_1.c3
      have f7_1_c4 := m7_1.c4
      have f7_2_lt := m7_2.lt
      have f7_2_c0 := m7_2.c0
      have f7_2_c1 := m7_2.c1
      have f7_3_lt := m7_3.lt
      have f7_3_c0 := m7_3.c0
      have f7_3_c1 := m7_3.c1
      have f7_3_c2 := m7_3.c2
      have f7_3_c3 := m7_3.c3
      have f7_4_lt := m7_4.lt
      have f7_4_c0 := m7_4.c0
      have f7_4_c1 := m7_4.c1
      clear hAt tpt
      refine (BT.out _ _ _ m7_4.sl).mono ?_; rintro e w' ⟨⟨pw, cw, rfl, ho⟩, qw, rfl⟩
      have tpw := ho.slp
      clear ho
      go_wp2_with (fail)
      obtain ⟨Aw, hAw⟩ : ∃ A, W7.heap.size + qw.bl.size = A := ⟨_, rfl⟩
      rw [hAw]
      refine calls_world (fun W => Below w.heap.size w W ∧ BoxR W (w.heap.size + 1) n m ∧ BoxM W Am 3 pm 9 cm (zF a) ∧ PtAt W Ap p0 p1 p2 p3 ∧ BoxM W Aw 2 pw 4 cw F) ⟨by (repeat' (first | (with_reducible assumption) | (with_reducible exact Below.refl _ _) | (with_reducible refine below_wov ?_ ?_ _) | (with_reducible refine below_drewN ?_ _) | (with_reducible refine Below.drew ?_) | (with_reducible refine Below.alloc ?_ ?_ _) | (with_reducible refine Below.setCell ?_ ?_ _) | (with_reducible exact Nat.le_refl _) | omega | (simp only [World.size_alloc, World.size_setCell, World.size_drew, Wov_size, World.heap_drewN]; omega))), m7_0.below (by (repeat' (first | (with_reducible assumption) | (with_reducible exact Below.refl _ _) | (with_reducible refine below_wov ?_ ?_ _) | (with_reducible refine below_drewN ?_ _) | (with_reducible refine Below.drew ?_) | (with_reducible refine Below.alloc ?_ ?_ _) | (with_reducible refine Below.setCell ?_ ?_ _) | (with_reducible exact Nat.le_refl _) | omega | (simp only [World.size_alloc, World.size_setCell, World.size_drew, Wov_size, World.heap_drewN]; omega)))), m7_2.below (by (repeat' (first | (with_reducible assumption) | (with_reducible exact Below.refl _ _) | (with_reducible refine below_wov ?_ ?_ _) | (with_reducible refine below_drewN ?_ _) | (with_reducible refine Below.drew ?_) | (with_reducible refine Below.alloc ?_ ?_ _) | (with_reducible refine Below.setCell ?_ ?_ _) | (with_reducible exact Nat.le_refl _) | omega | (simp only [World.size_alloc, World.size_setCell, World.size_drew, Wov_size, World.heap_drewN]; omega)))), m7_3.below (by (repeat' (first | (with_reducible assumption) | (with_reducible exact Below.refl _ _) | (with_reducible refine below_wov ?_ ?_ _) | (with_reducible refine below_drewN ?_ _) | (with_reducible refine Below.drew ?_) | (with_reducible refine Below.alloc ?_ ?_ _) | (with_reducible refine Below.setCell ?_ ?_ _) | (with_reducible exact Nat.le_refl _) | omega | (simp only [World.size_alloc, World.size_setCell, World.size_drew, Wov_size, World.heap_drewN]; omega)))), BoxM.new (tpw) (by rw [← hAw]; (try simp only [Wov_size]))⟩ ?_
      rintro W8 ⟨hb8, m8_0, m8_1, m8_2, m8_3⟩
      clear hb7 f7_0_lt f7_0_c0 f7_0_c1 f7_1_lt f7_1_c0 f7_1_c1 f7_1_c2 f7_1_c3 f7_1_c4 f7_2_lt f7_2_c0 f7_2_c1 f7_3_lt f7_3_c0 f7_3_c1 f7_3_c2 f7_3_c3 f7_4_lt f7_4_c0 f7_4_c1 m7_0 m7_1 m7_2 m7_3 m7_4 hs7
      have hs8 := hb8.size
      have f8_0_lt := m8_0.lt
      have f8_0_c0 := m8_0.c0
      have f8_0_c1 := m8_0.c1
      have f8_1_lt := m8_1.lt
      have f8_1_c0 := m8_1.c0
      have f8_1_c1 := m8_1.c1
      have f8_2_lt := m8_2.lt
      have f8_2_c0 := m8_2.c0
      have f8_2_c1 := m8_2.c1
      have f8_2_c2 := m8_2.c2
      have f8_2_c3 := m8_2.c3
      have f8_3_lt := m8_3.lt
      have f8_3_c0 := m8_3.c0
      have f8_3_c1 := m8_3.c1
      clear hAw tpw
      refine (DR.out _ _ _ m8_1.sl).mono ?_; rintro e w' ⟨⟨po, co, rfl, ho⟩, qo, rfl⟩
      have tpo := ho.slp
      clear ho
      go_wp2_with (fail)
      obtain ⟨Ao, hAo⟩ : ∃ A, W8.heap.size + qo.bl.size = A := ⟨_, rfl⟩
      rw [hAo]
      obtain ⟨L1, hL1⟩ : ∃ A, W8.heap.size + (qo.bl.size + 1) = A := ⟨_, rfl⟩
      rw [hL1]
      refine calls_world (fun W => Below w.heap.size w W ∧ BoxR W (w.heap.size + 1) n m ∧ PtAt W Ap p0 p1 p2 p3 ∧ BoxM W Aw 2 pw 4 cw F ∧ BoxM W Ao 2 po 4 co G ∧ SlR W (some ⟨L1, 0, none⟩) 1 (fun _ => (p0, p1))) ⟨by (repeat' (first | (with_reducible assumption) | (with_reducible exact Below.refl _ _) | (with_reducible refine below_wov ?_ ?_ _) | (with_reducible refine below_drewN ?_ _) | (with_reducible refine Below.drew ?_) | (with_reducible refine Below.alloc ?_ ?_ _) | (with_reducible refine Below.setCell ?_ ?_ _) | (with_reducible exact Nat.le_refl _) | omega | (simp only [World.size_alloc, World.size_setCell, World.size_drew, Wov_size, World.heap_drewN]; omega))), m8_0.below (by (repeat' (first | (with_reducible assumption) | (with_reducible exact Below.refl _ _) | (with_reducible refine below_wov ?_ ?_ _) | (with_reducible refine below_drewN ?_ _) | (with_reducible refine Below.drew ?_) | (with_reducible refine Below.alloc ?_ ?_ _) | (with_reducible refine Below.setCell ?_ ?_ _) | (with_reducible exact Nat.le_refl _) | omega | (simp only [World.size_alloc, World.size_setCell, World.size_drew, Wov_size, World.heap_drewN]; omega)))), m8_2.below (by (repeat' (first | (with_reducible assumption) | (with_reducible exact Below.refl _ _) | (with_reducible refine below_wov ?_ ?_ _) | (with_reducible refine below_drewN ?_ _) | (with_reducible refine Below.drew ?_) | (with_reducible refine Below.alloc ?_ ?_ _) | (with_reducible refine Below.setCell ?_ ?_ _) | (with_reducible exact Nat.le_refl _) | omega | (simp only [World.size_alloc, World.size_setCell, World.size_drew, Wov_size, World.heap_drewN]; omega)))), m8_3.below (by (repeat' (first | (with_reducible assumption) | (with_reducible exact Below.refl _ _) | (with_reducible refine below_wov ?_ ?_ _) | (with_reducible refine below_drewN ?_ _) | (with_reducible refine Below.drew ?_) | (with_reducible refine Below.alloc ?_ ?_ _) | (with_reducible refine Below.setCell ?_ ?_ _) | (with_reducible exact Nat.le_refl _) | omega | (simp only [World.size_alloc, World.size_setCell, World.size_drew, Wov_size, World.heap_drewN]; omega)))), (BoxM.new (t := 59) (W := Wov W8 qo) tpo (by rw [← hAo]; (try simp only [Wov_size]))).below (by (repeat' (first | (with_reducible assumption) | (with_reducible exact Below.refl _ _) | (with_reducible refine below_wov ?_ ?_ _) | (with_reducible refine below_drewN ?_ _) | (with_reducible refine Below.drew ?_) | (with_reducible refine Below.alloc ?_ ?_ _) | (with_reducible refine Below.setCell ?_ ?_ _) | (with_reducible exact Nat.le_refl _) | omega | (simp only [World.size_alloc, World.size_setCell, World.size_drew, Wov_size, World.heap_drewN]; omega)))), .inr ⟨L1, 0, rfl, by rw [← hL1]; (first | omega | ((simp only [World.size_alloc, World.size_setCell, World.size_drew, Wov_size, World.heap_drewN, Array.size_append]) <;> omega)), fun x hx => by (obtain rfl : x = 0 := by omega); rw [← hL1]; constructor <;> simp [go_sem]⟩⟩ ?_
      rintro W9 ⟨hb9, m9_0, m9_1, m9_2, m9_3, m9_4⟩
      clear hb8 f8_0_lt f8_0_c0 f8_0_c1 f8_1_lt f8_1_c0 f8_1_c1 f8_2_lt f8_2_c0 f8_2_c1 f8_2_c2 f8_2_c3 f8_3_lt f8_3_c0 f8_3_c1 m8_0 m8_1 m8_2 m8_3 hs8
      have hs9 := hb9.size
      have f9_0_lt := m9_0.lt
      have f9_0_c0 := m9_0.c0
      have f9_0_c1 := m9_0.c1
      have f9_1_lt := m9_1.lt
      have f9_1_c0 := m9_1.c0
      have f9_1_c1 := m9_1.c1
      have f9_1_c2 := m9_1.c2
      have f9_1_c3 := m9_1.c3
      have f9_2_lt := m9_2.lt
      have f9_2_c0 := m9_2.c0
      have f9_2_c1 := m9_2.c1
      have f9_3_lt := m9_3.lt
      have f9_3_c0 := m9_3.c0
      have f9_3_c1 := m9_3.c1
      clear hAo hL1 tpo BT DR
      refine (K1.out _ _ _ _ m9_2.sl m9_4).mono ?_; rintro e w' ⟨rfl, q1, rfl⟩
      go_wp2_with (fail)
      obtain ⟨L2, hL2⟩ : ∃ A, W9.heap.size + q1.bl.size = A := ⟨_, rfl⟩
      rw [hL2]
      refine calls_world (fun W => Below w.heap.size w W ∧ BoxR W (w.heap.size + 1) n m ∧ BoxM W Aw 2 pw 4 cw F ∧ BoxM W Ao 2 po 4 co G ∧ SlR W (some ⟨L2, 0, none⟩) 1 (fun _ => (n, m))) ⟨by (repeat' (first | (with_reducible assumption) | (with_reducible exact Below.refl _ _) | (with_reducible refine below_wov ?_ ?_ _) | (with_reducible refine below_drewN ?_ _) | (with_reducible refine Below.drew ?_) | (with_reducible refine Below.alloc ?_ ?_ _) | (with_reducible refine Below.setCell ?_ ?_ _) | (with_reducible exact Nat.le_refl _) | omega | (simp only [World.size_alloc, World.size_setCell, World.size_drew, Wov_size, World.heap_drewN]; omega))), m9_0.below (by (repeat' (first | (with_reducible assumption) | (with_reducible exact Below.refl _ _) | (with_reducible refine below_wov ?_ ?_ _) | (with_reducible refine below_drewN ?_ _) | (with_reducible refine Below.drew ?_) | (with_reducible refine Below.alloc ?_ ?_ _) | (with_reducible refine Below.setCell ?_ ?_ _) | (with_reducible exact Nat.le_refl _) | omega | (simp only [World.size_alloc, World.size_setCell, World.size_drew, Wov_size, World.heap_drewN]; omega)))), m9_2.below (by (repeat' (first | (with_reducible assumption) | (with_reducible exact Below.refl _ _) | (with_reducible refine below_wov ?_ ?_ _) | (with_reducible refine below_drewN ?_ _) | (with_reducible refine Below.drew ?_) | (with_reducible refine Below.alloc ?_ ?_ _) | (with_reducible refine Below.setCell ?_ ?_ _) | (with_reducible exact Nat.le_refl _) | omega | (simp only [World.size_alloc, World.size_setCell, World.size_drew, Wov_size, World.heap_drewN]; omega)))), m9_3.below (by (repeat' (first | (with_reducible assumption) | (with_reducible exact Below.refl _ _) | (with_reducible refine below_wov ?_ ?_ _) | (with_reducible refine below_drewN ?_ _) | (with_reducible refine Below.drew ?_) | (with_reducible refine Below.alloc ?_ ?_ _) | (with_reducible refine Below.setCell ?_ ?_ _) | (with_reducible exact Nat.le_refl _) | omega | (simp only [World.size_alloc, World.size_setCell, World.size_drew, Wov_size, World.heap_drewN]; omega)))), .inr ⟨L2, 0, rfl, by rw [← hL2]; (first | omega | ((simp only [World.size_alloc, World.size_setCell, World.size_drew, Wov_size, World.heap_drewN, Array.size_append]) <;> omega)), fun x hx => by (obtain rfl : x = 0 := by omega); rw [← hL2]; constructor <;> simp [go_sem]⟩⟩ ?_
      rintro W10 ⟨hb10, m10_0, m10_1, m10_2, m10_3⟩
      clear hb9 f9_0_lt f9_0_c0 f9_0_c1 f9_1_lt f9_1_c0 f9_1_c1 f9_1_c2 f9_1_c3 f9_2_lt f9_2_c0 f9_2_c1 f9_3_lt f9_3_c0 f9_3_c1 m9_0 m9_1 m9_2 m9_3 m9_4 hs9
      have hs10 := hb10.size
      have f10_0_lt := m10_0.lt
      have f10_0_c0 := m10_0.c0
      have f10_0_c1 := m10_0.c1
      have f10_1_lt := m10_1.lt
      have f10_1_c0 := m10_1.c0
      have f10_1_c1 := m10_1.c1
      have f10_2_lt := m10_2.lt
      have f10_2_c0 := m10_2.c0
      have f10_2_c1 := m10_2.c1
      clear hL2
      refine (K2.out _ _ _ _ m10_2.sl m10_3).mono ?_; rintro e w' ⟨rfl, q2, rfl⟩
      go_wp2_with (fail)
      obtain ⟨L3, hL3⟩ : ∃ A, W10.heap.size + q2.bl.size = A := ⟨_, rfl⟩
      rw [hL3]
      refine calls_world (fun W => Below w.heap.size w W ∧ BoxR W (w.heap.size + 1) n m ∧ BoxM W Aw 2 pw 4 cw F ∧ BoxM W Ao 2 po 4 co G ∧ SlR W (some ⟨L3, 0, none⟩) 1 (fun _ => (n, m))) ⟨by (repeat' (first | (with_reducible assumption) | (with_reducible exact Below.refl _ _) | (with_reducible refine below_wov ?_ ?_ _) | (with_reducible refine below_drewN ?_ _) | (with_reducible refine Below.drew ?_) | (with_reducible refine Below.alloc ?_ ?_ _) | (with_reducible refine Below.setCell ?_ ?_ _) | (with_reducible exact Nat.le_refl _) | omega | (simp only [World.size_alloc, World.size_setCell, World.size_drew, Wov_size, World.heap_drewN]; omega))), m10_0.below (by (repeat' (first | (with_reducible assumption) | (with_reducible exact Below.refl _ _) | (with_reducible refine below_wov ?_ ?_ _) | (with_reducible refine below_drewN ?_ _) | (with_reducible refine Below.drew ?_) | (with_reducible refine Below.alloc ?_ ?_ _) | (with_reducible refine Below.setCell ?_ ?_ _) | (with_reducible exact Nat.le_refl _) | omega | (simp only [World.size_alloc, World.size_setCell, World.size_drew, Wov_size, World.heap_drewN]; omega)))), m10_1.below (by (repeat' (first | (with_reducible assumption) | (with_reducible exact Below.refl _ _) | (with_reducible refine below_wov ?_ ?_ _) | (with_reducible refine below_drewN ?_ _) | (with_reducible refine Below.drew ?_) | (with_reducible refine Below.alloc ?_ ?_ _) | (with_reducible refine Below.setCell ?_ ?_ _) | (with_reducible exact Nat.le_refl _) | omega | (simp only [World.size_alloc, World.size_setCell, World.size_drew, Wov_size, World.heap_drewN]; omega)))), m10_2.below (by (repeat' (first | (with_reducible assumption) | (with_reducible exact Below.refl _ _) | (with_reducible refine below_wov ?_ ?_ _) | (with_reducible refine below_drewN ?_ _) | (with_reducible refine Below.drew ?_) | (with_reducible refine Below.alloc ?_ ?_ _) | (with_reducible refine Below.setCell ?_ ?_ _) | (with_reducible exact Nat.le_refl _) | omega | (simp only [World.size_alloc, World.size_setCell, World.size_drew, Wov_size, World.heap_drewN]; omega)))), .inr ⟨L3, 0, rfl, by rw [← hL3]; (first | omega | ((simp only [World.size_alloc, World.size_setCell, World.size_drew, Wov_size, World.heap_drewN, Array.size_append]) <;> omega)), fun x hx => by (obtain rfl : x = 0 := by omega); rw [← hL3]; constructor <;> simp [go_sem]⟩⟩ ?_
      rintro W11 ⟨hb11, m11_0, m11_1, m11_2, m11_3⟩
      clear hb10 f10_0_lt f10_0_c0 f10_0_c1 f10_1_lt f10_1_c0 f10_1_c1 f10_2_lt f10_2_c0 f10_2_c1 m10_0 m10_1 m10_2 m10_3 hs10
      have hs11 := hb11.size
      have f11_0_lt := m11_0.lt
      have f11_0_c0 := m11_0.c0
      have f11_0_c1 := m11_0.c1
      have f11_1_lt := m11_1.lt
      have f11_1_c0 := m11_1.c0
      have f11_1_c1 := m11_1.c1
      have f11_2_lt := m11_2.lt
      have f11_2_c0 := m11_2.c0
      have f11_2_c1 := m11_2.c1
      clear hL3
      refine (K3.out _ _ _ _ m11_1.sl m11_3).mono ?_; rintro e w' ⟨rfl, q3, rfl⟩
      go_wp2_with (fail)
      refine calls_world (fun W => Below w.heap.size w W ∧ BoxM W Aw 2 pw 4 cw F ∧ BoxM W Ao 2 po 4 co G) ⟨by (repeat' (first | (with_reducible assumption) | (with_reducible exact Below.refl _ _) | (with_reducible refine below_wov ?_ ?_ _) | (with_reducible refine below_drewN ?_ _) | (with_reducible refine Below.drew ?_) | (with_reducible refine Below.alloc ?_ ?_ _) | (with_reducible refine Below.setCell ?_ ?_ _) | (with_reducible exact Nat.le_refl _) | omega | (simp only [World.size_alloc, World.size_setCell, World.size_drew, Wov_size, World.heap_drewN]; omega))), m11_1.below (by (repeat' (first | (with_reducible assumption) | (with_reducible exact Below.refl _ _) | (with_reducible refine below_wov ?_ ?_ _) | (with_reducible refine below_drewN ?_ _) | (with_reducible refine Below.drew ?_) | (with_reducible refine Below.alloc ?_ ?_ _) | (with_reducible refine Below.setCell ?_ ?_ _) | (with_reducible exact Nat.le_refl _) | omega | (simp only [World.size_alloc, World.size_setCell, World.size_drew, Wov_size, World.heap_drewN]; omega)))), m11_2.below (by (repeat' (first | (with_reducible assumption) | (with_reducible exact Below.refl _ _) | (with_reducible refine below_wov ?_ ?_ _) | (with_reducible refine below_drewN ?_ _) | (with_reducible refine Below.drew ?_) | (with_reducible refine Below.alloc ?_ ?_ _) | (with_reducible refine Below.setCell ?_ ?_ _) | (with_reducible exact Nat.le_refl _) | omega | (simp only [World.size_alloc, World.size_setCell, World.size_drew, Wov_size, World.heap_drewN]; omega))))⟩ ?_
      rintro W12 ⟨hb12, m12_0, m12_1⟩
      clear hb11 f11_0_lt f11_0_c0 f11_0_c1 f11_1_lt f11_1_c0 f11_1_c1 f11_2_lt f11_2_c0 f11_2_c1 m11_0 m11_1 m11_2 m11_3 hs11
      have hs12 := hb12.size
      have f12_0_lt := m12_0.lt
      have f12_0_c0 := m12_0.c0
      have f12_0_c1 := m12_0.c1
      have f12_1_lt := m12_1.lt
      have f12_1_c0 := m12_1.c0
      have f12_1_c1 := m12_1.c1
      refine (IN.out _ _ _ _ _ m12_0.sl m12_1.sl).mono ?_; rintro e w' ⟨rfl, q4, rfl⟩
      clear K1 K2 K3 IN
      go_wp2
      all_goals
        go_ret
        exact gives_bool (by simp) (by (repeat' (first | (with_reducible assumption) | (with_reducible exact Below.refl _ _) | (with_reducible refine below_wov ?_ ?_ _) | (with_reducible refine below_drewN ?_ _) | (with_reducible refine Below.drew ?_) | (with_reducible refine Below.alloc ?_ ?_ _) | (with_reducible refine Below.setCell ?_ ?_ _) | (with_reducible exact Nat.le_refl _) | omega | (simp only [World.size_alloc, World.size_setCell, World.size_drew, Wov_size, World.heap_drewN]; omega))))
  · skip
    have be : (es != 0) = true := by rw [bne_iff_ne]; exact he
    clear he hs CK
    have MX := Lib.hid (fun w => zmatrix_any a w wa)
    obtain ⟨r, hr⟩ : ∃ r, r = matZ a := ⟨_, rfl⟩
    rw [← hr] at MX
    clear hr wa wn wm
    unfold zoneV at MX
    unfold zoneV
    go_enter Try.func12, Try.ntmps12
    go_wp2_with (fail)
    refine calls_world (fun W => Below w.heap.size w W ∧ BoxZ W w.heap.size a ∧ BoxR W (w.heap.size + 1) n m) ⟨by (repeat' (first | (with_reducible assumption) | (with_reducible exact Below.refl _ _) | (with_reducible refine below_wov ?_ ?_ _) | (with_reducible refine below_drewN ?_ _) | (with_reducible refine Below.drew ?_) | (with_reducible refine Below.alloc ?_ ?_ _) | (with_reducible refine Below.setCell ?_ ?_ _) | (with_reducible exact Nat.le_refl _) | omega | (simp only [World.size_alloc, World.size_setCell, World.size_drew, Wov_size, World.heap_drewN]; omega))), (BoxZ.new (W := w) (t := 24) (by simp)).below (by (repeat' (first | (with_reducible assumption) | (with_reducible exact Below.refl _ _) | (with_reducible refine below_wov ?_ ?_ _) | (with_reducible refine below_drewN ?_ _) | (with_reducible refine Below.drew ?_) | (with_reducible refine Below.alloc ?_ ?_ _) | (with_reducible refine Below.setCell ?_ ?_ _) | (with_reducible exact Nat.le_refl _) | omega | (simp only [World.size_alloc, World.size_setCell, World.size_drew, Wov_size, World.heap_drewN]; omega)))), (BoxR.new (W := (World.alloc w (.cells #[.int .i64 (a 0), .int .i64 (a 1), .int .i64 (a 2), .int .i64 (a 3), .int .i64 (a 4), .int .i64 (a 5)] 24))) (t := 65) (by simp)).below (by (repeat' (first | (with_reducible assumption) | (with_reducible exact Below.refl _ _) | (with_reducible refine below_wov ?_ ?_ _) | (with_reducible refine below_drewN ?_ _) | (with_reducible refine Below.drew ?_) | (with_reducible refine Below.alloc ?_ ?_ _) | (with_reducible refine Below.setCell ?_ ?_ _) | (with_reducible exact Nat.le_refl _) | omega | (simp only [World.size_alloc, World.size_setCell, World.size_drew, Wov_size, World.heap_drewN]; omega))))⟩ ?_
    rintro W1 ⟨hb1, m1_0, m1_1⟩
    have hs1 := hb1.size
    have f1_0_lt := m1_0.lt
    have f1_0_c0 := m1_0.c0
    have f1_0_c1 := m1_0.c1
    have f1_0_c2 := m1_0.c2
    have f1_0_c3 := m1_0.c3
    have f1_0_c4 := m1_0.c4
    have f1_0_c5 := m1_0.c5
    have f1_1_lt := m1_1.lt
    have f1_1_c0 := m1_1.c0
    have f1_1_c1 := m1_1.c1
    refine (HA.out _).mono ?_; rintro e w' ⟨rfl, q0, rfl⟩
    go_wp2_with (fail)
    refine calls_world (fun W => Below w.heap.size w W ∧ BoxZ W w.heap.size a ∧ BoxR W (w.heap.size + 1) n m) ⟨by (repeat' (first | (with_reducible assumption) | (with_reducible exact Below.refl _ _) | (with_reducible refine below_wov ?_ ?_ _) | (with_reducible refine below_drewN ?_ _) | (with_reducible refine Below.drew ?_) | (with_reducible refine Below.alloc ?_ ?_ _) | (with_reducible refine Below.setCell ?_ ?_ _) | (with_reducible exact Nat.le_refl _) | omega | (simp only [World.size_alloc, World.size_setCell, World.size_drew, Wov_size, World.heap_drewN]; omega))), m1_0.below (by (repeat' (first | (with_reducible assumption) | (with_reducible exact Below.refl _ _) | (with_reducible refine below_wov ?_ ?_ _) | (with_reducible refine below_drewN ?_ _) | (with_reducible refine Below.drew ?_) | (with_reducible refine Below.alloc ?_ ?_ _) | (with_reducible refine Below.setCell ?_ ?_ _) | (with_reducible exact Nat.le_refl _) | omega | (simp only [World.size_alloc, World.size_setCell, World.size_drew, Wov_size, World.heap_drewN]; omega)))), m1_1.below (by (repeat' (first | (with_reducible assumption) | (with_reducible exact Below.refl _ _) | (with_reducible refine below_wov ?_ ?_ _) | (with_reducible refine below_drewN ?_ _) | (with_reducible refine Below.drew ?_) | (with_reducible refine Below.alloc ?_ ?_ _) | (with_reducible refine Below.setCell ?_ ?_ _) | (with_reducible exact Nat.le_refl _) | omega | (simp only [World.size_alloc, World.size_setCell, World.size_drew, Wov_size, World.heap_drewN]; omega))))⟩ ?_
    rintro W2 ⟨hb2, m2_0, m2_1⟩
    clear hb1 f1_0_lt f1_0_c0 f1_0_c1 f1_0_c2 f1_0_c3 f1_0_c4 f1_0_c5 f1_1_lt f1_1_c0 f1_1_c1 m1_0 m1_1 hs1
    have hs2 := hb2.size
    have f2_0_lt := m2_0.lt
    have f2_0_c0 := m2_0.c0
    have f2_0_c1 := m2_0.c1
    have f2_0_c2 := m2_0.c2
    have f2_0_c3 := m2_0.c3
    have f2_0_c4 := m2_0.c4
    have f2_0_c5 := m2_0.c5
    have f2_1_lt := m2_1.lt
    have f2_1_c0 := m2_1.c0
    have f2_1_c1 := m2_1.c1
    refine (Cs.out _).mono ?_; rintro e w' ⟨rfl, qs, rfl⟩
    go_wp2_with (fail)
    obtain ⟨As, hAs⟩ : ∃ A, W2.heap.size + qs.bl.size = A := ⟨_, rfl⟩
    rw [hAs]
    refine calls_world (fun W => Below w.heap.size w W ∧ BoxZ W w.heap.size a ∧ BoxR W (w.heap.size + 1) n m ∧ BoxS W As ss.lo ss.ls ss.hi ss.hs ss.op) ⟨by (repeat' (first | (with_reducible assumption) | (with_reducible exact Below.refl _ _) | (with_reducible refine below_wov ?_ ?_ _) | (with_reducible refine below_drewN ?_ _) | (with_reducible refine Below.drew ?_) | (with_reducible refine Below.alloc ?_ ?_ _) | (with_reducible refine Below.setCell ?_ ?_ _) | (with_reducible exact Nat.le_refl _) | omega | (simp only [World.size_alloc, World.size_setCell, World.size_drew, Wov_size, World.heap_drewN]; omega))), m2_0.below (by (repeat' (first | (with_reducible assumption) | (with_reducible exact Below.refl _ _) | (with_reducible refine below_wov ?_ ?_ _) | (with_reducible refine below_drewN ?_ _) | (with_reducible refine Below.drew ?_) | (with_reducible refine Below.alloc ?_ ?_ _) | (with_reducible refine Below.setCell ?_ ?_ _) | (with_reducible exact Nat.le_refl _) | omega | (simp only [World.size_alloc, World.size_setCell, World.size_drew, Wov_size, World.heap_drewN]; omega)))), m2_1.below (by (repeat' (first | (with_reducible assumption) | (with_reducible exact Below.refl _ _) | (with_reducible refine below_wov ?_ ?_ _) | (with_reducible refine below_drewN ?_ _) | (with_reducible refine Below.drew ?_) | (with_reducible refine Below.alloc ?_ ?_ _) | (with_reducible refine Below.setCell ?_ ?_ _) | (with_reducible exact Nat.le_refl _) | omega | (simp only [World.size_alloc, World.size_setCell, World.size_drew, Wov_size, World.heap_drewN]; omega)))), (BoxS.new (by rw [← hAs]; (try simp only [Wov_size])))⟩ ?_
    rintro W3 ⟨hb3, m3_0, m3_1, m3_2⟩
    clear hb2 f2_0_lt f2_0_c0 f2_0_c1 f2_0_c2 f2_0_c3 f2_0_c4 f2_0_c5 f2_1_lt f2_1_c0 f2_1_c1 m2_0 m2_1 hs2
    have hs3 := hb3.size
    have f3_0_lt := m3_0.lt
    have f3_0_c0 := m3_0.c0
    have f3_0_c1 := m3_0.c1
    have f3_0_c2 := m3_0.c2
    have f3_0_c3 := m3_0.c3
    have f3_0_c4 := m3_0.c4
    have f3_0_c5 := m3_0.c5
    have f3_1_lt := m3_1.lt
    have f3_1_c0 := m3_1.c0
    have f3_1_c1 := m3_1.c1
    have f3_2_lt := m3_2.lt
    have f3_2_c0 := m3_2.c0
    have f3_2_c1 := m3_2.c1
    have f3_2_c2 := m3_2.c2
    have f3_2_c3 := m3_2.c3
    have f3_2_c4 := m3_2.c4
    clear hAs HA Cs
    refine (MX.out _).mono ?_; rintro e w' ⟨⟨pm, cm, rfl, ho⟩, qm, rfl⟩
    clear ho MX
    go_wp2
    all_goals
      go_ret
      exact gives_bool (by simp) (by (repeat' (first | (with_reducible assumption) | (with_reducible exact Below.refl _ _) | (with_reducible refine below_wov ?_ ?_ _) | (with_reducible refine below_drewN ?_ _) | (with_reducible refine Below.drew ?_) | (with_reducible refine Below.alloc ?_ ?_ _) | (with_reducible refine Below.setCell ?_ ?_ _) | (with_reducible exact Nat.le_refl _) | omega | (simp only [World.size_alloc, World.size_setCell, World.size_drew, Wov_size, World.heap_drewN]; omega))))
theorem walk (z0 : Nat → Int) (wz0 : FitsZ z0) (n1 m1 : Int) (wn1 : fits64 n1) (wm1 : fits64 m1) (w : World) : Calls Try.prog 12 #[zoneV z0, .agg #[.int .i64 n1, .int .i64 m1]] w (Gives w (.bool true)) := walk0 z0 wz0 n1 m1 wn1 wm1 w
end Go.Proofs.Ytbgbhfcnadjhdaa.compFirsts
