/- The law RatFloor: a fraction lies from the whole number below to less than the next one; told otherwise it is the same. No condition. -/
import Derived.Test.YtacihahipjlnpaaLaw3
import Derived.Test.YtacihahipjlnpaaM6
namespace Go.Proofs.Ytacihahipjlnpaa.ratFloor
open Go.ChangeShapes Go.WideShapes Go.ChangeAt Go.RowKit
set_option linter.unusedVariables false
set_option linter.unusedSimpArgs false
attribute [local go_sem] Nat.add_assoc Nat.add_lt_add_iff_left lit_lt_add

theorem bne0_t {e : Int} (h : e ≠ 0) : (e != 0) = true := by simp; omega
theorem mul_small {a k : Int} (h1 : -1125899906842624 ≤ a) (h2 : a ≤ 1125899906842624) (k1 : 1 ≤ k) (k2 : k ≤ 256) : -9223372036854775808 ≤ a * k ∧ a * k ≤ 9223372036854775807 := by
  have x1 : -1125899906842624 * 256 ≤ a * k := by
    have a1 : -1125899906842624 * k ≤ a * k := Int.mul_le_mul_of_nonneg_right h1 (by omega)
    omega
  have x2 : a * k ≤ 1125899906842624 * 256 := by
    have a1 : a * k ≤ 1125899906842624 * k := Int.mul_le_mul_of_nonneg_right h2 (by omega)
    omega
  omega

set_option maxRecDepth 10000 in
set_option maxHeartbeats 8000000 in
theorem walk (num : Int) (wx : (Lit.int .i64 num).wf = true) (den : Int) (wy : (Lit.int .i64 den).wf = true) (by_ : Int) (wb : (Lit.int .u8 by_).wf = true) (w : World) :
    Calls Try.prog 9 #[.int .i64 num, .int .i64 den, .int .u8 by_] w (Gives w (.bool true)) := by
  have wx := fits_of_wf wx
  have wy := fits_of_wf wy
  have wb : 0 ≤ by_ ∧ by_ ≤ 255 := by simpa [Lit.wf, IntKind.min, IntKind.max, IntKind.signed, IntKind.bits] using wb
  obtain ⟨b1, b2⟩ := wb
  have HA := Lib.hid alive3
  have O1 := Lib.hid (of_any num den wx.1 wx.2 wy.2)
  obtain ⟨⟨x, y, e⟩, hr⟩ : ∃ r, r = ofR num den := ⟨_, rfl⟩
  rw [← hr] at O1
  rcases ofR_spec hr.symm with ⟨he, hd, hok, hlow⟩ | ⟨he, hx, hy⟩
  · subst he
    have hb := okRat_bd hok
    have wq := within_fd hok
    have fx : fits64 x := by
      unfold lowR at hlow
      split at hlow
      · simp only [Prod.mk.injEq] at hlow
        have hg0 : 0 < Nat.gcd num.natAbs den.natAbs := Nat.gcd_pos_of_pos_right _ (by omega)
        have := ediv_bd' num _ hg0 wx.1 wx.2
        rw [hlow.1] at this
        exact this
      · simp at hlow
    have fy : fits64 y := by unfold fits64; omega
    have FL := Lib.hid (ratFloor_any x y fx)
    have c1 := floor_cmp (x := x) (y := y) (by omega)
    have c2 := next_cmp (x := x) (y := y) (by omega)
    have hfl : floorPR x y = (x / y, decide (x % y = 0), 0) := by rw [floorPR, hok]; rfl
    rw [hfl] at FL
    obtain ⟨q, hq⟩ : ∃ q, q = x / y := ⟨_, rfl⟩
    rw [← hq] at FL c1 c2 wq
    have o2 : ofR q 1 = (q, 1, 0) := by rw [ofR_one, if_pos wq]
    have O2 := Lib.hid (of_any q 1 (by omega) (by omega) (by omega))
    rw [o2] at O2
    have C1 := Lib.hid (ratCmp_any q 1 x y (by omega) (by omega) (by omega) (by omega) fx.1 fx.2 fy.1 fy.2)
    have C2 := Lib.hid (ratCmp_any x y (q + 1) 1 fx.1 fx.2 fy.1 fy.2 (by omega) (by omega) (by omega) (by omega))
    have ok1 : okRat q 1 = true := by rw [okRat_one]; simpa using wq
    have cc1 : cmpPR q 1 x y = (if x % y = 0 then 0 else -1, 0) := by rw [cmpPR, ok1, hok, c1]; rfl
    rw [cc1] at C1
    have K := Lib.hid (ratCheck_ok fx.1 fx.2 hok)
    have O3 := Lib.hid (of_any (q + 1) 1 (by omega) (by omega) (by omega))
    have R3 : (q + 1 ≤ 2305843009213693952 ∧ ofR (q + 1) 1 = (q + 1, 1, 0) ∧ cmpPR x y (q + 1) 1 = (-1, 0)) ∨ ofR (q + 1) 1 = (0, 0, 10) := by
      by_cases h : q + 1 ≤ 2305843009213693952
      · left
        refine ⟨h, by rw [ofR_one, if_pos (by omega)], ?_⟩
        have ok2 : okRat (q + 1) 1 = true := by rw [okRat_one]; simp; omega
        rw [cmpPR, hok, ok2, c2]; rfl
      · right
        rw [ofR_one, if_neg (by omega)]
    have O4 : Hid (num ≤ 1125899906842624 → -1125899906842624 ≤ num → den ≤ 1125899906842624 → wrap64 (num * (by_ + 1)) = num * (by_ + 1) ∧ wrap64 (den * (by_ + 1)) = den * (by_ + 1) ∧ Pure Try.prog 19 #[.int .i64 (num * (by_ + 1)), .int .i64 (den * (by_ + 1))] (.tuple #[.agg #[.int .i64 x, .int .i64 y], .int .i64 0])) := fun h1 h2 h3 => by
      have m1 := mul_small (k := by_ + 1) h2 h1 (by omega) (by omega)
      have m2 := mul_small (a := den) (k := by_ + 1) (by omega) h3 (by omega) (by omega)
      refine ⟨wrap64_id m1.1 m1.2, wrap64_id m2.1 m2.2, ?_⟩
      have := of_any (num * (by_ + 1)) (den * (by_ + 1)) m1.1 m1.2 m2.2
      have hp : 0 < den * (by_ + 1) := Int.mul_pos (by omega) (by omega)
      rw [ofR, if_neg (by omega), lowR_scale (by omega) (by omega), hlow] at this
      exact this
    have W3 : Hid (IntKind.i64.wrap (q + 1) = q + 1) := by show _ = _; rw [IntKind.wrap_i64]; omega
    obtain ⟨q1, q2⟩ := wq
    obtain ⟨c, wh, hcw⟩ : ∃ (c : Int) (wh : Bool), ((c = 0 ∧ wh = true) ∨ (c = -1 ∧ wh = false)) ∧ Hid ((if x % y = 0 then (0 : Int) else -1) = c ∧ decide (x % y = 0) = wh) := by
      by_cases h : x % y = 0
      · exact ⟨0, true, .inl ⟨rfl, rfl⟩, by simp [h], by simp [h]⟩
      · exact ⟨-1, false, .inr ⟨rfl, rfl⟩, by simp [h], by simp [h]⟩
    obtain ⟨hcw, hE⟩ := hcw
    rw [hE.out.1] at C1
    rw [hE.out.2] at FL
    simp only [rat3, pair2, trip] at O1 O2 C1 FL
    clear hr hd hlow hb hfl o2 ok1 cc1 c1 c2 hE hq fx fy hok
    rcases R3 with ⟨h3, o3, cc2⟩ | o3
    · rw [o3] at O3
      rw [cc2] at C2
      simp only [rat3, pair2] at O3 C2
      clear o3 cc2
      rcases hcw with ⟨rfl, rfl⟩ | ⟨rfl, rfl⟩
      · go_enter Try.func9, Try.ntmps9
        go_wp2_with (fail)
        refine (HA.out _).mono ?_; rintro e w' ⟨rfl, p1, rfl⟩
        go_wp2_with (fail)
        refine (O1.out _).mono ?_; rintro e w' ⟨rfl, p2, rfl⟩
        go_wp2_with (fail)
        refine (FL.out _).mono ?_; rintro e w' ⟨rfl, p3, rfl⟩
        go_wp2_with (fail)
        refine (O2.out _).mono ?_; rintro e w' ⟨rfl, p4, rfl⟩
        go_wp2_with (fail)
        refine (C1.out _).mono ?_; rintro e w' ⟨rfl, p5, rfl⟩
        go_wp2_with (fail)
        refine (K.out _).mono ?_; rintro e w' ⟨rfl, p6, rfl⟩
        go_wp2_with (fail)
        refine (O3.out _).mono ?_; rintro e w' ⟨rfl, p7, rfl⟩
        go_wp2_with (fail)
        refine (C2.out _).mono ?_; rintro e w' ⟨rfl, p8, rfl⟩
        go_wp2_with (fail)
        all_goals first
          | (go_ret; exact gives_bool rfl (by (repeat' (first | (with_reducible assumption) | (with_reducible exact Below.refl _ _) | (with_reducible refine below_wov ?_ ?_ _) | (with_reducible refine below_drewN ?_ _) | (with_reducible refine Below.drew ?_) | (with_reducible refine Below.alloc ?_ ?_ _) | (with_reducible refine Below.setCell ?_ ?_ _) | (with_reducible exact Nat.le_refl _) | omega | (simp only [World.size_alloc, World.size_setCell, World.size_drew, Wov_size, World.heap_drewN]; omega)))))
          | (obtain ⟨w1, w2, P⟩ := O4.out (by omega) (by omega) (by omega)
             rw [w1, w2]
             refine (P _).mono ?_; rintro e w' ⟨rfl, p9, rfl⟩
             go_wp2
             go_ret
             exact gives_bool (by simp) (by (repeat' (first | (with_reducible assumption) | (with_reducible exact Below.refl _ _) | (with_reducible refine below_wov ?_ ?_ _) | (with_reducible refine below_drewN ?_ _) | (with_reducible refine Below.drew ?_) | (with_reducible refine Below.alloc ?_ ?_ _) | (with_reducible refine Below.setCell ?_ ?_ _) | (with_reducible exact Nat.le_refl _) | omega | (simp only [World.size_alloc, World.size_setCell, World.size_drew, Wov_size, World.heap_drewN]; omega)))))
      · go_enter Try.func9, Try.ntmps9
        go_wp2_with (fail)
        refine (HA.out _).mono ?_; rintro e w' ⟨rfl, p1, rfl⟩
        go_wp2_with (fail)
        refine (O1.out _).mono ?_; rintro e w' ⟨rfl, p2, rfl⟩
        go_wp2_with (fail)
        refine (FL.out _).mono ?_; rintro e w' ⟨rfl, p3, rfl⟩
        go_wp2_with (fail)
        refine (O2.out _).mono ?_; rintro e w' ⟨rfl, p4, rfl⟩
        go_wp2_with (fail)
        refine (C1.out _).mono ?_; rintro e w' ⟨rfl, p5, rfl⟩
        go_wp2_with (fail)
        refine (K.out _).mono ?_; rintro e w' ⟨rfl, p6, rfl⟩
        go_wp2_with (fail)
        refine (O3.out _).mono ?_; rintro e w' ⟨rfl, p7, rfl⟩
        go_wp2_with (fail)
        refine (C2.out _).mono ?_; rintro e w' ⟨rfl, p8, rfl⟩
        go_wp2_with (fail)
        all_goals first
          | (go_ret; exact gives_bool rfl (by (repeat' (first | (with_reducible assumption) | (with_reducible exact Below.refl _ _) | (with_reducible refine below_wov ?_ ?_ _) | (with_reducible refine below_drewN ?_ _) | (with_reducible refine Below.drew ?_) | (with_reducible refine Below.alloc ?_ ?_ _) | (with_reducible refine Below.setCell ?_ ?_ _) | (with_reducible exact Nat.le_refl _) | omega | (simp only [World.size_alloc, World.size_setCell, World.size_drew, Wov_size, World.heap_drewN]; omega)))))
          | (obtain ⟨w1, w2, P⟩ := O4.out (by omega) (by omega) (by omega)
             rw [w1, w2]
             refine (P _).mono ?_; rintro e w' ⟨rfl, p9, rfl⟩
             go_wp2
             go_ret
             exact gives_bool (by simp) (by (repeat' (first | (with_reducible assumption) | (with_reducible exact Below.refl _ _) | (with_reducible refine below_wov ?_ ?_ _) | (with_reducible refine below_drewN ?_ _) | (with_reducible refine Below.drew ?_) | (with_reducible refine Below.alloc ?_ ?_ _) | (with_reducible refine Below.setCell ?_ ?_ _) | (with_reducible exact Nat.le_refl _) | omega | (simp only [World.size_alloc, World.size_setCell, World.size_drew, Wov_size, World.heap_drewN]; omega)))))
    · rw [o3] at O3
      simp only [rat3] at O3
      clear o3 C2
      rcases hcw with ⟨rfl, rfl⟩ | ⟨rfl, rfl⟩
      · go_enter Try.func9, Try.ntmps9
        go_wp2_with (fail)
        refine (HA.out _).mono ?_; rintro e w' ⟨rfl, p1, rfl⟩
        go_wp2_with (fail)
        refine (O1.out _).mono ?_; rintro e w' ⟨rfl, p2, rfl⟩
        go_wp2_with (fail)
        refine (FL.out _).mono ?_; rintro e w' ⟨rfl, p3, rfl⟩
        go_wp2_with (fail)
        refine (O2.out _).mono ?_; rintro e w' ⟨rfl, p4, rfl⟩
        go_wp2_with (fail)
        refine (C1.out _).mono ?_; rintro e w' ⟨rfl, p5, rfl⟩
        go_wp2_with (fail)
        refine (K.out _).mono ?_; rintro e w' ⟨rfl, p6, rfl⟩
        go_wp2_with (fail)
        refine (O3.out _).mono ?_; rintro e w' ⟨rfl, p7, rfl⟩
        go_wp2_with (fail)
        all_goals first
          | (go_ret; exact gives_bool rfl (by (repeat' (first | (with_reducible assumption) | (with_reducible exact Below.refl _ _) | (with_reducible refine below_wov ?_ ?_ _) | (with_reducible refine below_drewN ?_ _) | (with_reducible refine Below.drew ?_) | (with_reducible refine Below.alloc ?_ ?_ _) | (with_reducible refine Below.setCell ?_ ?_ _) | (with_reducible exact Nat.le_refl _) | omega | (simp only [World.size_alloc, World.size_setCell, World.size_drew, Wov_size, World.heap_drewN]; omega)))))
          | (obtain ⟨w1, w2, P⟩ := O4.out (by omega) (by omega) (by omega)
             rw [w1, w2]
             refine (P _).mono ?_; rintro e w' ⟨rfl, p9, rfl⟩
             go_wp2
             go_ret
             exact gives_bool (by simp) (by (repeat' (first | (with_reducible assumption) | (with_reducible exact Below.refl _ _) | (with_reducible refine below_wov ?_ ?_ _) | (with_reducible refine below_drewN ?_ _) | (with_reducible refine Below.drew ?_) | (with_reducible refine Below.alloc ?_ ?_ _) | (with_reducible refine Below.setCell ?_ ?_ _) | (with_reducible exact Nat.le_refl _) | omega | (simp only [World.size_alloc, World.size_setCell, World.size_drew, Wov_size, World.heap_drewN]; omega)))))
      · go_enter Try.func9, Try.ntmps9
        go_wp2_with (fail)
        refine (HA.out _).mono ?_; rintro e w' ⟨rfl, p1, rfl⟩
        go_wp2_with (fail)
        refine (O1.out _).mono ?_; rintro e w' ⟨rfl, p2, rfl⟩
        go_wp2_with (fail)
        refine (FL.out _).mono ?_; rintro e w' ⟨rfl, p3, rfl⟩
        go_wp2_with (fail)
        refine (O2.out _).mono ?_; rintro e w' ⟨rfl, p4, rfl⟩
        go_wp2_with (fail)
        refine (C1.out _).mono ?_; rintro e w' ⟨rfl, p5, rfl⟩
        go_wp2_with (fail)
        refine (K.out _).mono ?_; rintro e w' ⟨rfl, p6, rfl⟩
        go_wp2_with (fail)
        refine (O3.out _).mono ?_; rintro e w' ⟨rfl, p7, rfl⟩
        go_wp2_with (fail)
        all_goals first
          | (go_ret; exact gives_bool rfl (by (repeat' (first | (with_reducible assumption) | (with_reducible exact Below.refl _ _) | (with_reducible refine below_wov ?_ ?_ _) | (with_reducible refine below_drewN ?_ _) | (with_reducible refine Below.drew ?_) | (with_reducible refine Below.alloc ?_ ?_ _) | (with_reducible refine Below.setCell ?_ ?_ _) | (with_reducible exact Nat.le_refl _) | omega | (simp only [World.size_alloc, World.size_setCell, World.size_drew, Wov_size, World.heap_drewN]; omega)))))
          | (obtain ⟨w1, w2, P⟩ := O4.out (by omega) (by omega) (by omega)
             rw [w1, w2]
             refine (P _).mono ?_; rintro e w' ⟨rfl, p9, rfl⟩
             go_wp2
             go_ret
             exact gives_bool (by simp) (by (repeat' (first | (with_reducible assumption) | (with_reducible exact Below.refl _ _) | (with_reducible refine below_wov ?_ ?_ _) | (with_reducible refine below_drewN ?_ _) | (with_reducible refine Below.drew ?_) | (with_reducible refine Below.alloc ?_ ?_ _) | (with_reducible refine Below.setCell ?_ ?_ _) | (with_reducible exact Nat.le_refl _) | omega | (simp only [World.size_alloc, World.size_setCell, World.size_drew, Wov_size, World.heap_drewN]; omega)))))
  · subst hx; subst hy
    have hb1 := bne0_t he
    simp only [rat3] at O1
    clear hr wx wy he
    go_enter Try.func9, Try.ntmps9
    go_wp2_with (fail)
    refine (HA.out _).mono ?_; rintro e w' ⟨rfl, p1, rfl⟩
    go_wp2_with (fail)
    refine (O1.out _).mono ?_; rintro e w' ⟨rfl, p2, rfl⟩
    go_wp2
    go_ret
    exact gives_bool (by simp) (by (repeat' (first | (with_reducible assumption) | (with_reducible exact Below.refl _ _) | (with_reducible refine below_wov ?_ ?_ _) | (with_reducible refine below_drewN ?_ _) | (with_reducible refine Below.drew ?_) | (with_reducible refine Below.alloc ?_ ?_ _) | (with_reducible refine Below.setCell ?_ ?_ _) | (with_reducible exact Nat.le_refl _) | omega | (simp only [World.size_alloc, World.size_setCell, World.size_drew, Wov_size, World.heap_drewN]; omega))))

set_option maxRecDepth 100000 in
theorem lifted (os : Os) (started : os.Started) (H : Type) (enc : TypeId × Value → H) :
    ReturnsInHanded {} Try.checked os 9 .any (Rows.ratFloorSpec.pre6 enc Try.prog Try.f9 Rows.ratFloorRow.domain false) (Rows.ratFloorSpec.post enc Try.prog Try.f9 false true false false) := by
  refine returnsInHanded_of_change (C := Try.checked) own started (by kernel_rfl) Try.func9
    (ChangeSpec.witness6 (enc := enc) (C := Try.checked) false ⟨#[], #[.int .i64 0, .int .i64 0, .int .u8 0], []⟩ 8 (by kernel_rfl) (by kernel_rfl) (by kernel_rfl) (by kernel_rfl)) ?_
  intro W base args ds gs before hval0 hW hcnd _
  have hval : ∀ (j : Nat) t v, Try.f9.params[j]? = some t → args[j]? = some v → Value.okWide Try.prog W .any base t v := hval0
  have hW' := hW
  obtain ⟨p, q, hA0, hV, hpq, hfz, hnd⟩ := hW
  have hA : DataW.TrodAll enc Try.prog W 0 (fun _ => true) true Try.f9.params.toList args.toList ds p := hA0
  rw [Try.params9] at hA hval
  obtain ⟨v0, vs0, d0, ds0, p0, q0, hargs, rfl, rfl, h0, r0⟩ := trodAll_cons hA
  obtain ⟨v1, vs1, d1, ds1, p1, q1, rfl, rfl, rfl, h1, r1⟩ := trodAll_cons r0
  obtain ⟨v2, vs2, d2, ds2, p2, q2, rfl, rfl, rfl, h2, r2⟩ := trodAll_cons r1
  obtain ⟨rfl, rfl, rfl⟩ := trodAll_nil r2
  obtain rfl : args = #[v0, v1, v2] := by cases args; simp_all
  obtain ⟨rfl, rfl⟩ := trodVars_none hV
  obtain ⟨a0, rfl, rfl, rfl, w0⟩ := open_int Try.underlying3 (hval 0 3 v0 rfl rfl) h0
  obtain ⟨a1, rfl, rfl, rfl, w1⟩ := open_int Try.underlying3 (hval 1 3 v1 rfl rfl) h1
  obtain ⟨a2, rfl, rfl, rfl, w2⟩ := open_int Try.underlying5 (hval 2 5 v2 rfl rfl) h2
  clear hA0 hval0
  refine (walk a0 w0 a1 w1 a2 w2 W).mono fun e W' ⟨he, hg⟩ => ?_
  subst he
  exact ⟨_, rfl, law_post (by kernel_rfl) rfl rfl hW' rfl rfl rfl hg⟩

theorem over : Rows.ratFloorRow.holds Try.pinned (OpenSpec.ofChange Rows.ratFloorSpec) :=
  OpenClaim.holds_of_wide 9 Try.f9 rfl rfl rfl rfl rfl rfl rfl ⟨rfl, rfl, rfl, rfl, rfl⟩ rfl rfl rfl rfl rfl (by kernel_rfl) Try.func9 (by kernel_rfl)
    (of_decide_eq_true (by kernel_rfl)) (by unfold Func.isWrapper; first | (rw [if_pos (by decide +kernel)]; kernel_rfl) | (rw [if_neg (by decide +kernel)]; exact ⟨rfl, rfl⟩))
    (fun os started H enc _ => lifted os started H enc)

/-- The statement. -/
theorem proved : Rows.RatFloorSaid := over
#print axioms proved
end Go.Proofs.Ytacihahipjlnpaa.ratFloor
