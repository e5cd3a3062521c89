/- The law RatTells: comparing, sums, middles, whether a difference keeps a bound, whole numbers below, or the errors, are the document's. No condition. -/
import Derived.Test.YtacihahipjlnpaaFrame2
import Derived.Test.YtacihahipjlnpaaRef3h
namespace Go.Proofs.Ytacihahipjlnpaa.ratTells
open Go.ChangeShapes Go.WideShapes Go.ChangeAt Go.RowKit
set_option linter.unusedVariables false
set_option linter.unusedSimpArgs false

attribute [local go_sem] Nat.add_assoc Nat.add_lt_add_iff_left lit_lt_add

set_option maxRecDepth 10000 in
set_option maxHeartbeats 4000000 in
theorem walk (n1 d1 : Int) (wn1 : fits64 n1) (wd1 : fits64 d1) (n2 d2 : Int) (wn2 : fits64 n2) (wd2 : fits64 d2) (x : Int) (wx : (Lit.int .i64 x).wf = true) (w : World) :
    Calls Try.prog 10 #[.agg #[.int .i64 n1, .int .i64 d1], .agg #[.int .i64 n2, .int .i64 d2], .int .i64 x] w (Gives w (.bool true)) := by
  have wx := fits_of_wf wx
  have A1 := ratCmp_any n1 d1 n2 d2 wn1.1 wn1.2 wd1.1 wd1.2 wn2.1 wn2.2 wd2.1 wd2.2
  have A2 := refCmp_any n1 d1 n2 d2 wn1 wn2
  have B1 := ratAdd_any n1 d1 n2 d2 wn1 wn2
  have B2 := refAdd_any n1 d1 n2 d2 wn1 wn2
  have C1 := ratMid_any n1 d1 n2 d2 wn1 wn2
  have C2 := refMid_any n1 d1 n2 d2 wn1 wn2
  have D1 := ratKeeps_any n1 d1 n2 d2 x wn1 wn2 wx
  have D2 := refKeeps_any n1 d1 n2 d2 x wn1 wn2 wx
  have E1 := ratFloor_any n1 d1 wn1
  have E2 := refFloor_any n1 d1 wn1
  have G1 := ratCheck_any n1 d1 wn1.1 wn1.2
  have G2 := refCheck_any n1 d1 wn1.1 wn1.2
  obtain ⟨⟨a1, a2⟩, ha⟩ : ∃ r, r = cmpPR n1 d1 n2 d2 := ⟨_, rfl⟩
  obtain ⟨⟨b1, b2, b3⟩, hb⟩ : ∃ r, r = addPR n1 d1 n2 d2 1 := ⟨_, rfl⟩
  obtain ⟨⟨c1, c2, c3⟩, hc⟩ : ∃ r, r = addPR n1 d1 n2 d2 2 := ⟨_, rfl⟩
  obtain ⟨⟨e1, e2⟩, he⟩ : ∃ r, r = keepsPR n1 d1 n2 d2 x := ⟨_, rfl⟩
  obtain ⟨⟨f1, f2, f3⟩, hf⟩ : ∃ r, r = floorPR n1 d1 := ⟨_, rfl⟩
  obtain ⟨g1, hg⟩ : ∃ r, r = rcode (okRat n1 d1) := ⟨_, rfl⟩
  rw [← ha] at A1 A2
  rw [← hb] at B1 B2
  rw [← hc] at C1 C2
  rw [← he] at D1 D2
  rw [← hf] at E1 E2
  rw [← hg] at G1 G2
  simp only [pair2, rat3, bpair, trip] at A1 A2 B1 B2 C1 C2 D1 D2 E1 E2
  clear ha hb hc he hf hg wn1 wd1 wn2 wd2 wx
  go_enter Try.func10, Try.ntmps10
  go_wp2_with (fail)
  refine (A1 _).mono ?_; rintro e w' ⟨rfl, p1, rfl⟩
  go_wp2_with (fail)
  refine (A2 _).mono ?_; rintro e w' ⟨rfl, p2, rfl⟩
  go_wp2_with (fail)
  refine (B1 _).mono ?_; rintro e w' ⟨rfl, p3, rfl⟩
  go_wp2_with (fail)
  refine (B2 _).mono ?_; rintro e w' ⟨rfl, p4, rfl⟩
  go_wp2_with (fail)
  refine (C1 _).mono ?_; rintro e w' ⟨rfl, p5, rfl⟩
  go_wp2_with (fail)
  refine (C2 _).mono ?_; rintro e w' ⟨rfl, p6, rfl⟩
  go_wp2_with (fail)
  refine (D1 _).mono ?_; rintro e w' ⟨rfl, p7, rfl⟩
  go_wp2_with (fail)
  refine (D2 _).mono ?_; rintro e w' ⟨rfl, p8, rfl⟩
  go_wp2_with (fail)
  refine (E1 _).mono ?_; rintro e w' ⟨rfl, p9, rfl⟩
  go_wp2_with (fail)
  refine (E2 _).mono ?_; rintro e w' ⟨rfl, p10, rfl⟩
  go_wp2_with (fail)
  refine wp_world (fun W => Below w.heap.size w W ∧ W.cell? ⟨w.heap.size, 0, none⟩ = some (.int .i64 n1) ∧ W.cell? ⟨w.heap.size, 1, none⟩ = some (.int .i64 d1)) ⟨by (repeat' (first | (with_reducible assumption) | (with_reducible exact Below.refl _ _) | (with_reducible refine below_wov ?_ ?_ _) | (with_reducible refine below_drewN ?_ _) | (with_reducible refine Below.drew ?_) | (with_reducible refine Below.alloc ?_ ?_ _) | (with_reducible refine Below.setCell ?_ ?_ _) | (with_reducible exact Nat.le_refl _) | omega | (simp only [World.size_alloc, World.size_setCell, World.size_drew, Wov_size, World.heap_drewN]; omega))), by simp [go_sem], by simp [go_sem]⟩ ?_
  rintro W ⟨hB, f1, f2⟩
  have hsz := hB.size
  clear A1 A2 B1 B2 C1 C2 D1 D2 E1 E2
  refine wp_region_wov (by kernel_rfl) (by kernel_rfl) ?_
  repeat (go_big_quiet_step (first | (go_at_call 30; exact G1.at _ _) | (go_at_call 38; exact G2.at _ _)))
  refine wpQuiet_nil ?_
  rintro _ ⟨pq, rfl⟩
  go_wp2
  go_ret
  exact gives_bool (by simp) (by (repeat' (first | (with_reducible assumption) | (with_reducible exact Below.refl _ _) | (with_reducible refine below_wov ?_ ?_ _) | (with_reducible refine below_drewN ?_ _) | (with_reducible refine Below.drew ?_) | (with_reducible refine Below.alloc ?_ ?_ _) | (with_reducible refine Below.setCell ?_ ?_ _) | (with_reducible exact Nat.le_refl _) | omega | (simp only [World.size_alloc, World.size_setCell, World.size_drew, Wov_size, World.heap_drewN]; omega))))

set_option maxRecDepth 100000 in
theorem lifted (os : Os) (started : os.Started) (H : Type) (enc : TypeId × Value → H) :
    ReturnsInHanded {} Try.checked os 10 .any (Rows.ratTellsSpec.pre6 enc Try.prog Try.f10 Rows.ratTellsRow.domain false) (Rows.ratTellsSpec.post enc Try.prog Try.f10 false true false false) := by
  refine returnsInHanded_of_change (C := Try.checked) own started (by kernel_rfl) Try.func10
    (ChangeSpec.witness6 (enc := enc) (C := Try.checked) false ⟨#[], #[.agg #[.int .i64 0, .int .i64 0], .agg #[.int .i64 0, .int .i64 0], .int .i64 0], []⟩ 8 (by kernel_rfl) (by kernel_rfl) (by kernel_rfl) (by kernel_rfl)) ?_
  intro W base args ds gs before hval0 hW hcnd _
  have hval : ∀ (j : Nat) t v, Try.f10.params[j]? = some t → args[j]? = some v → Value.okWide Try.prog W .any base t v := hval0
  have hW' := hW
  obtain ⟨p, q, hA0, hV, hpq, hfz, hnd⟩ := hW
  have hA : DataW.TrodAll enc Try.prog W 0 (fun _ => true) true Try.f10.params.toList args.toList ds p := hA0
  rw [Try.params10] at hA hval
  obtain ⟨v0, vs0, d0, ds0, p0, q0, hargs, rfl, rfl, h0, r0⟩ := trodAll_cons hA
  obtain ⟨v1, vs1, d1, ds1, p1, q1, rfl, rfl, rfl, h1, r1⟩ := trodAll_cons r0
  obtain ⟨v2, vs2, d2, ds2, p2, q2, rfl, rfl, rfl, h2, r2⟩ := trodAll_cons r1
  obtain ⟨rfl, rfl, rfl⟩ := trodAll_nil r2
  obtain rfl : args = #[v0, v1, v2] := by cases args; simp_all
  obtain ⟨rfl, rfl⟩ := trodVars_none hV
  obtain ⟨n0, m0, rfl, wn0, wm0⟩ := open_rat (hval 0 33 v0 rfl rfl) h0
  obtain ⟨n1, m1, rfl, wn1, wm1⟩ := open_rat (hval 1 33 v1 rfl rfl) h1
  obtain ⟨a2, rfl, rfl, rfl, w2⟩ := open_int Try.underlying42 (hval 2 42 v2 rfl rfl) h2
  clear hA0 hval0
  refine (walk n0 m0 wn0 wm0 n1 m1 wn1 wm1 a2 w2 W).mono fun e W' ⟨he, hg⟩ => ?_
  subst he
  exact ⟨_, rfl, law_post (by kernel_rfl) rfl rfl hW' rfl rfl rfl hg⟩

theorem over : Rows.ratTellsRow.holds Try.pinned (OpenSpec.ofChange Rows.ratTellsSpec) :=
  OpenClaim.holds_of_wide 10 Try.f10 rfl rfl rfl rfl rfl rfl rfl ⟨rfl, rfl, rfl, rfl, rfl⟩ rfl rfl rfl rfl rfl (by kernel_rfl) Try.func10 (by kernel_rfl)
    (of_decide_eq_true (by kernel_rfl)) (by unfold Func.isWrapper; first | (rw [if_pos (by decide +kernel)]; kernel_rfl) | (rw [if_neg (by decide +kernel)]; exact ⟨rfl, rfl⟩))
    (fun os started H enc _ => lifted os started H enc)

/-- The statement. -/
theorem proved : Rows.RatTellsSaid := over
#print axioms proved
end Go.Proofs.Ytacihahipjlnpaa.ratTells
