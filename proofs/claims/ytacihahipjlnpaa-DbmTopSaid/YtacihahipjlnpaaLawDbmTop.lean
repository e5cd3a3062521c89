/- The law DbmTop: the matrix that all times keep, or the error, is the document's. No condition. -/
import Derived.Test.YtacihahipjlnpaaD14
namespace Go.Proofs.Ytacihahipjlnpaa.dbmTop
open Go.ChangeShapes Go.WideShapes Go.ChangeAt Go.RowKit
set_option linter.unusedVariables false
set_option linter.unusedSimpArgs false
attribute [local go_sem] Nat.add_assoc Nat.add_lt_add_iff_left lit_lt_add

set_option maxRecDepth 10000 in
set_option maxHeartbeats 4000000 in
theorem walk (n : Int) (wx : (Lit.int .i64 n).wf = true) (w : World) :
    Calls Try.prog 3 #[.int .i64 n] w (Gives w (.bool true)) := by
  have wx := fits_of_wf wx
  by_cases hc : n < 1 ∨ 4 < n
  · have T1 := Lib.hid (fun w => top_bad n w hc)
    have T2 := Lib.hid (fun w => refTop_bad n w hc)
    clear hc wx
    go_enter Try.func3, Try.ntmps3
    go_wp2_with (fail)
    refine (T1.out _).mono ?_; rintro e w' ⟨rfl, p1, rfl⟩
    go_wp2_with (fail)
    refine (T2.out _).mono ?_; rintro e w' ⟨rfl, p2, rfl⟩
    go_wp2_with (fail)
    refine (refSame_any 0 0 none none 0 0 0 0 (fun _ => 0) (fun _ => 0) _ (slp_nil _ _) (slp_nil _ _) (by omega)).mono ?_
    rw [sameB_refl]
    rintro e w' ⟨rfl, p3, rfl⟩
    go_wp2
    go_ret
    exact gives_bool rfl (by (repeat' (first | (with_reducible assumption) | (with_reducible exact Below.refl _ _) | (with_reducible refine below_wov ?_ ?_ _) | (with_reducible refine below_drewN ?_ _) | (with_reducible refine Below.drew ?_) | (with_reducible refine Below.alloc ?_ ?_ _) | (with_reducible refine Below.setCell ?_ ?_ _) | (with_reducible exact Nat.le_refl _) | omega | (simp only [World.size_alloc, World.size_setCell, World.size_drew, Wov_size, World.heap_drewN]; omega))))
  · obtain ⟨m, rfl⟩ : ∃ m : Nat, n = (m : Int) := ⟨n.toNat, by omega⟩
    have h0 : 1 ≤ m := by omega
    have h4 : m ≤ 4 := by omega
    have hq0 : m * m ≤ 4 * 4 := Nat.mul_le_mul h4 h4
    have T1 := Lib.hid (fun w => top_ok m w h0 h4)
    have T2 := Lib.hid (fun w => refTop_ok m w h0 h4)
    clear hc wx
    go_enter Try.func3, Try.ntmps3
    go_wp2_with (fail)
    refine (T1.out _).mono ?_; rintro e w' ⟨B1, c1, rfl, hA1, hB1, hH1, p1, rfl⟩
    have HH1 := Lib.hid hH1
    clear hH1
    go_wp2_with (fail)
    refine (T2.out _).mono ?_; rintro e w' ⟨B2, c2, rfl, hA2, hB2, hH2, p2, rfl⟩
    have HH2 := Lib.hid hH2
    clear hH2
    go_wp2_with (fail)
    refine (refSame_any m m _ _ (m * m) (m * m) c1 c2 (topF m) (topF m) _ (slp_later HH1.out hB1 (by (repeat' (first | (with_reducible assumption) | (with_reducible exact Below.refl _ _) | (with_reducible refine below_wov ?_ ?_ _) | (with_reducible refine below_drewN ?_ _) | (with_reducible refine Below.drew ?_) | (with_reducible refine Below.alloc ?_ ?_ _) | (with_reducible refine Below.setCell ?_ ?_ _) | (with_reducible exact Nat.le_refl _) | omega | (simp only [World.size_alloc, World.size_setCell, World.size_drew, Wov_size, World.heap_drewN]; omega))))) (slp_later HH2.out hB2 (by (repeat' (first | (with_reducible assumption) | (with_reducible exact Below.refl _ _) | (with_reducible refine below_wov ?_ ?_ _) | (with_reducible refine below_drewN ?_ _) | (with_reducible refine Below.drew ?_) | (with_reducible refine Below.alloc ?_ ?_ _) | (with_reducible refine Below.setCell ?_ ?_ _) | (with_reducible exact Nat.le_refl _) | omega | (simp only [World.size_alloc, World.size_setCell, World.size_drew, Wov_size, World.heap_drewN]; omega))))) (by omega)).mono ?_
    rw [sameB_refl]
    rintro e w' ⟨rfl, p3, rfl⟩
    go_wp2
    go_ret
    exact gives_bool rfl (by (repeat' (first | (with_reducible assumption) | (with_reducible exact Below.refl _ _) | (with_reducible refine below_wov ?_ ?_ _) | (with_reducible refine below_drewN ?_ _) | (with_reducible refine Below.drew ?_) | (with_reducible refine Below.alloc ?_ ?_ _) | (with_reducible refine Below.setCell ?_ ?_ _) | (with_reducible exact Nat.le_refl _) | omega | (simp only [World.size_alloc, World.size_setCell, World.size_drew, Wov_size, World.heap_drewN]; omega))))

set_option maxRecDepth 100000 in
theorem lifted (os : Os) (started : os.Started) (H : Type) (enc : TypeId × Value → H) :
    ReturnsInHanded {} Try.checked os 3 .any (Rows.dbmTopSpec.pre6 enc Try.prog Try.f3 Rows.dbmTopRow.domain false) (Rows.dbmTopSpec.post enc Try.prog Try.f3 false true false false) := by
  refine returnsInHanded_of_change (C := Try.checked) own started (by kernel_rfl) Try.func3
    (ChangeSpec.witness6 (enc := enc) (C := Try.checked) false ⟨#[], #[.int .i64 0], []⟩ 8 (by kernel_rfl) (by kernel_rfl) (by kernel_rfl) (by kernel_rfl)) ?_
  intro W base args ds gs before hval0 hW hcnd _
  have hval : ∀ (j : Nat) t v, Try.f3.params[j]? = some t → args[j]? = some v → Value.okWide Try.prog W .any base t v := hval0
  have hW' := hW
  obtain ⟨p, q, hA0, hV, hpq, hfz, hnd⟩ := hW
  have hA : DataW.TrodAll enc Try.prog W 0 (fun _ => true) true Try.f3.params.toList args.toList ds p := hA0
  rw [Try.params3] at hA hval
  obtain ⟨v0, vs0, d0, ds0, p0, q0, hargs, rfl, rfl, h0, r0⟩ := trodAll_cons hA
  obtain ⟨rfl, rfl, rfl⟩ := trodAll_nil r0
  obtain rfl : args = #[v0] := by cases args; simp_all
  obtain ⟨rfl, rfl⟩ := trodVars_none hV
  obtain ⟨a0, rfl, rfl, rfl, w0⟩ := open_int Try.underlying3 (hval 0 3 v0 rfl rfl) h0
  clear hA0 hval0
  refine (walk a0 w0 W).mono fun e W' ⟨he, hg⟩ => ?_
  subst he
  exact ⟨_, rfl, law_post (by kernel_rfl) rfl rfl hW' rfl rfl rfl hg⟩

theorem over : Rows.dbmTopRow.holds Try.pinned (OpenSpec.ofChange Rows.dbmTopSpec) :=
  OpenClaim.holds_of_wide 3 Try.f3 rfl rfl rfl rfl rfl rfl rfl ⟨rfl, rfl, rfl, rfl, rfl⟩ rfl rfl rfl rfl rfl (by kernel_rfl) Try.func3 (by kernel_rfl)
    (of_decide_eq_true (by kernel_rfl)) (by unfold Func.isWrapper; first | (rw [if_pos (by decide +kernel)]; kernel_rfl) | (rw [if_neg (by decide +kernel)]; exact ⟨rfl, rfl⟩))
    (fun os started H enc _ => lifted os started H enc)

/-- The statement. -/
theorem proved : Rows.DbmTopSaid := over
#print axioms proved
end Go.Proofs.Ytacihahipjlnpaa.dbmTop
