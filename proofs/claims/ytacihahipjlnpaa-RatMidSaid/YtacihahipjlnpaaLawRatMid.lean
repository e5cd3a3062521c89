/- The law RatMid: the middle lies between, twice it is the sum, and it is the same either way round. No condition. -/
import Derived.Test.YtacihahipjlnpaaLaw3
import Derived.Test.YtacihahipjlnpaaM4
namespace Go.Proofs.Ytacihahipjlnpaa.ratMid
open Go.ChangeShapes Go.WideShapes Go.ChangeAt Go.RowKit
set_option linter.unusedVariables false
set_option linter.unusedSimpArgs false
attribute [local go_sem] Nat.add_assoc Nat.add_lt_add_iff_left lit_lt_add

theorem ne_f {e : Int} (h : e ≠ 0) : (e == 0) = false := by simp; omega
theorem bne0_t {e : Int} (h : e ≠ 0) : (e != 0) = true := by simp; omega

set_option maxRecDepth 10000 in
set_option maxHeartbeats 4000000 in
theorem walk (n1 d1 : Int) (wn1 : fits64 n1) (wd1 : fits64 d1) (n2 d2 : Int) (wn2 : fits64 n2) (wd2 : fits64 d2) (w : World) :
    Calls Try.prog 8 #[.agg #[.int .i64 n1, .int .i64 d1], .agg #[.int .i64 n2, .int .i64 d2]] w (Gives w (.bool true)) := by
  have HA := Lib.hid alive3
  have M1 := Lib.hid (ratMid_any n1 d1 n2 d2 wn1 wn2)
  have M2 := Lib.hid (ratMid_any n2 d2 n1 d1 wn2 wn1)
  rw [addPR_comm n2 d2 n1 d1] at M2
  have C1 := Lib.hid (ratCmp_any n1 d1 n2 d2 wn1.1 wn1.2 wd1.1 wd1.2 wn2.1 wn2.2 wd2.1 wd2.2)
  have S1 := Lib.hid (ratAdd_any n1 d1 n2 d2 wn1 wn2)
  obtain ⟨⟨x, y, e⟩, hm⟩ : ∃ r, r = addPR n1 d1 n2 d2 2 := ⟨_, rfl⟩
  rw [← hm] at M1 M2
  rcases addPR_spec (by omega) hm.symm with ⟨he, o1, o2, fx, om, hmid, hy, h1, h2⟩ | ⟨he, hx, hy⟩
  · subst he
    have fy : fits64 y := by have := okRat_bd om; unfold fits64; omega
    have mc := mid_cmp h1 h2 hy hmid
    have C2 := Lib.hid (ratCmp_any n1 d1 x y wn1.1 wn1.2 wd1.1 wd1.2 fx.1 fx.2 fy.1 fy.2)
    have C3 := Lib.hid (ratCmp_any x y n2 d2 fx.1 fx.2 fy.1 fy.2 wn2.1 wn2.2 wd2.1 wd2.2)
    have S2 := Lib.hid (ratAdd_any x y x y fx fx)
    have K := Lib.hid (ratCheck_ok fx.1 fx.2 om)
    have c1 : cmpPR n1 d1 n2 d2 = (cmpR n1 d1 n2 d2, 0) := by rw [cmpPR, o1, o2]; rfl
    have c2 : cmpPR n1 d1 x y = (cmpR n1 d1 n2 d2, 0) := by rw [cmpPR, o1, om, mc.1]; rfl
    have c3 : cmpPR x y n2 d2 = (cmpR n1 d1 n2 d2, 0) := by rw [cmpPR, om, o2, mc.2]; rfl
    rw [c1] at C1
    rw [c2] at C2
    rw [c3] at C3
    obtain ⟨⟨s1, s2, j⟩, hs⟩ : ∃ r, r = addPR n1 d1 n2 d2 1 := ⟨_, rfl⟩
    obtain ⟨⟨t1, t2, k⟩, ht⟩ : ∃ r, r = addPR x y x y 1 := ⟨_, rfl⟩
    rw [← hs] at S1
    rw [← ht] at S2
    have fin : Hid (j = 0 → k = 0 → s1 = t1 ∧ s2 = t2) := by
      intro hj hk
      subst hj; subst hk
      rcases addPR_spec (by omega) hs.symm with ⟨_, _, _, _, os, es, _, _, _⟩ | ⟨h, _⟩
      · rcases addPR_spec (by omega) ht.symm with ⟨_, _, _, _, ot, et, _, _, _⟩ | ⟨h, _⟩
        · exact mid_twice h1 h2 hy hmid os ot es et
        · exact (h rfl).elim
      · exact (h rfl).elim
    obtain ⟨c, hc⟩ : ∃ c, c = cmpR n1 d1 n2 d2 := ⟨_, rfl⟩
    rw [← hc] at C1 C2 C3
    simp only [rat3, pair2] at M1 M2 C1 C2 C3 S1 S2
    clear hm hs ht hc mc c1 c2 c3 o1 o2 om fx fy hmid hy h1 h2 wn1 wn2 wd1 wd2
    go_enter Try.func8, Try.ntmps8
    go_wp2_with (fail)
    refine (HA.out _).mono ?_; rintro e w' ⟨rfl, p1, rfl⟩
    go_wp2_with (fail)
    refine (M1.out _).mono ?_; rintro e w' ⟨rfl, p2, rfl⟩
    go_wp2_with (fail)
    refine (M2.out _).mono ?_; rintro e w' ⟨rfl, p3, rfl⟩
    go_wp2_with (fail)
    refine (C1.out _).mono ?_; rintro e w' ⟨rfl, p4, rfl⟩
    go_wp2_with (fail)
    refine (C2.out _).mono ?_; rintro e w' ⟨rfl, p5, rfl⟩
    go_wp2_with (fail)
    refine (C3.out _).mono ?_; rintro e w' ⟨rfl, p6, rfl⟩
    go_wp2_with (fail)
    refine (K.out _).mono ?_; rintro e w' ⟨rfl, p7, rfl⟩
    go_wp2_with (fail)
    refine (S1.out _).mono ?_; rintro e w' ⟨rfl, p8, rfl⟩
    go_wp2_with (fail)
    refine (S2.out _).mono ?_; rintro e w' ⟨rfl, p9, rfl⟩
    go_wp2
    all_goals
      go_ret
      refine gives_bool ?_ (by (repeat' (first | (with_reducible assumption) | (with_reducible exact Below.refl _ _) | (with_reducible refine below_wov ?_ ?_ _) | (with_reducible refine below_drewN ?_ _) | (with_reducible refine Below.drew ?_) | (with_reducible refine Below.alloc ?_ ?_ _) | (with_reducible refine Below.setCell ?_ ?_ _) | (with_reducible exact Nat.le_refl _) | omega | (simp only [World.size_alloc, World.size_setCell, World.size_drew, Wov_size, World.heap_drewN]; omega))))
      first
        | rfl
        | (have hf := fin.out (by assumption) (by assumption); simp_all; done)
        | (simp_all; done)
  · subst hx; subst hy
    have b1 := bne0_t he
    simp only [rat3] at M1 M2
    clear hm wn1 wn2 wd1 wd2 C1 S1 he
    go_enter Try.func8, Try.ntmps8
    go_wp2_with (fail)
    refine (HA.out _).mono ?_; rintro e w' ⟨rfl, p1, rfl⟩
    go_wp2_with (fail)
    refine (M1.out _).mono ?_; rintro e w' ⟨rfl, p2, rfl⟩
    go_wp2_with (fail)
    refine (M2.out _).mono ?_; rintro e w' ⟨rfl, p3, rfl⟩
    go_wp2
    go_ret
    exact gives_bool (by simp) (by (repeat' (first | (with_reducible assumption) | (with_reducible exact Below.refl _ _) | (with_reducible refine below_wov ?_ ?_ _) | (with_reducible refine below_drewN ?_ _) | (with_reducible refine Below.drew ?_) | (with_reducible refine Below.alloc ?_ ?_ _) | (with_reducible refine Below.setCell ?_ ?_ _) | (with_reducible exact Nat.le_refl _) | omega | (simp only [World.size_alloc, World.size_setCell, World.size_drew, Wov_size, World.heap_drewN]; omega))))

set_option maxRecDepth 100000 in
theorem lifted (os : Os) (started : os.Started) (H : Type) (enc : TypeId × Value → H) :
    ReturnsInHanded {} Try.checked os 8 .any (Rows.ratMidSpec.pre6 enc Try.prog Try.f8 Rows.ratMidRow.domain false) (Rows.ratMidSpec.post enc Try.prog Try.f8 false true false false) := by
  refine returnsInHanded_of_change (C := Try.checked) own started (by kernel_rfl) Try.func8
    (ChangeSpec.witness6 (enc := enc) (C := Try.checked) false ⟨#[], #[.agg #[.int .i64 0, .int .i64 0], .agg #[.int .i64 0, .int .i64 0]], []⟩ 8 (by kernel_rfl) (by kernel_rfl) (by kernel_rfl) (by kernel_rfl)) ?_
  intro W base args ds gs before hval0 hW hcnd _
  have hval : ∀ (j : Nat) t v, Try.f8.params[j]? = some t → args[j]? = some v → Value.okWide Try.prog W .any base t v := hval0
  have hW' := hW
  obtain ⟨p, q, hA0, hV, hpq, hfz, hnd⟩ := hW
  have hA : DataW.TrodAll enc Try.prog W 0 (fun _ => true) true Try.f8.params.toList args.toList ds p := hA0
  rw [Try.params8] at hA hval
  obtain ⟨v0, vs0, d0, ds0, p0, q0, hargs, rfl, rfl, h0, r0⟩ := trodAll_cons hA
  obtain ⟨v1, vs1, d1, ds1, p1, q1, rfl, rfl, rfl, h1, r1⟩ := trodAll_cons r0
  obtain ⟨rfl, rfl, rfl⟩ := trodAll_nil r1
  obtain rfl : args = #[v0, v1] := by cases args; simp_all
  obtain ⟨rfl, rfl⟩ := trodVars_none hV
  obtain ⟨n0, m0, rfl, wn0, wm0⟩ := open_rat (hval 0 33 v0 rfl rfl) h0
  obtain ⟨n1, m1, rfl, wn1, wm1⟩ := open_rat (hval 1 33 v1 rfl rfl) h1
  clear hA0 hval0
  refine (walk n0 m0 wn0 wm0 n1 m1 wn1 wm1 W).mono fun e W' ⟨he, hg⟩ => ?_
  subst he
  exact ⟨_, rfl, law_post (by kernel_rfl) rfl rfl hW' rfl rfl rfl hg⟩

theorem over : Rows.ratMidRow.holds Try.pinned (OpenSpec.ofChange Rows.ratMidSpec) :=
  OpenClaim.holds_of_wide 8 Try.f8 rfl rfl rfl rfl rfl rfl rfl ⟨rfl, rfl, rfl, rfl, rfl⟩ rfl rfl rfl rfl rfl (by kernel_rfl) Try.func8 (by kernel_rfl)
    (of_decide_eq_true (by kernel_rfl)) (by unfold Func.isWrapper; first | (rw [if_pos (by decide +kernel)]; kernel_rfl) | (rw [if_neg (by decide +kernel)]; exact ⟨rfl, rfl⟩))
    (fun os started H enc _ => lifted os started H enc)

/-- The statement. -/
theorem proved : Rows.RatMidSaid := over
#print axioms proved
end Go.Proofs.Ytacihahipjlnpaa.ratMid
