/- The document's zones: contracts of Full, Short, told, Made, Make. No condition. -/
import Derived.Test.YtpmpapenjcemjaaGreatDoorH6
import Derived.Test.YtpmpapenjcemjaaGreatDoorMF
namespace Go.Proofs.YtpmpapenjcemjaaGreatDoor
set_option linter.unusedSimpArgs false
set_option linter.unusedVariables false
open Go Go.RowKit Go.Shelf
attribute [local go_sem] Nat.add_assoc Nat.add_lt_add_iff_left lit_lt_add

set_option maxRecDepth 10000 in
set_option maxHeartbeats 2000000 in
theorem full8_any (z : Nat → Int) (w : World) : Calls Tryz.prog 116 #[zoneV z] w (rowPost w 3 9 (zF z)) := by
  obtain ⟨f, hf⟩ : ∃ f, f = zF z := ⟨_, rfl⟩
  have e0 : f 0 = 1 := by rw [hf]; rfl
  have e1 : f 1 = z 1 := by rw [hf]; rfl
  have e2 : f 2 = z 3 := by rw [hf]; rfl
  have e3 : f 3 = z 0 := by rw [hf]; rfl
  have e4 : f 4 = 1 := by rw [hf]; rfl
  have e5 : f 5 = z 5 := by rw [hf]; rfl
  have e6 : f 6 = z 2 := by rw [hf]; rfl
  have e7 : f 7 = z 4 := by rw [hf]; rfl
  have e8 : f 8 = 1 := by rw [hf]; rfl
  have HE : Hid (f 0 = 1 ∧ f 1 = z 1 ∧ f 2 = z 3 ∧ f 3 = z 0 ∧ f 4 = 1 ∧ f 5 = z 5 ∧ f 6 = z 2 ∧ f 7 = z 4 ∧ f 8 = 1) := ⟨e0, e1, e2, e3, e4, e5, e6, e7, e8⟩
  rw [← hf]
  clear hf e0 e1 e2 e3 e4 e5 e6 e7 e8
  unfold zoneV
  go_enter Tryz.func116, Tryz.ntmps116
  go_wp2
  go_returns
  refine ⟨w.heap.size + 2, 9, rfl, by omega, by simp [World.setCell], ?_, Wov_of_below (by (repeat' (first | (with_reducible assumption) | (with_reducible exact Below.refl _ _) | (with_reducible refine below_wov ?_ ?_ _) | (with_reducible refine below_drewN ?_ _) | (with_reducible refine Below.drew ?_) | (with_reducible refine Below.alloc ?_ ?_ _) | (with_reducible refine Below.setCell ?_ ?_ _) | (with_reducible exact Nat.le_refl _) | omega | (simp only [World.size_alloc, World.size_setCell, World.size_drew, Wov_size, World.heap_drewN]; omega))))⟩
  obtain ⟨e0, e1, e2, e3, e4, e5, e6, e7, e8⟩ := HE.out
  intro x hx
  rcases nine hx with rfl | rfl | rfl | rfl | rfl | rfl | rfl | rfl | rfl
  · rw [e0]; constructor <;> simp [go_sem]
  · rw [e1]; constructor <;> simp [go_sem]
  · rw [e2]; constructor <;> simp [go_sem]
  · rw [e3]; constructor <;> simp [go_sem]
  · rw [e4]; constructor <;> simp [go_sem]
  · rw [e5]; constructor <;> simp [go_sem]
  · rw [e6]; constructor <;> simp [go_sem]
  · rw [e7]; constructor <;> simp [go_sem]
  · rw [e8]; constructor <;> simp [go_sem]

theorem ptr30_8 {P : Program} {c : Code} {Q : Exit → Act → World → Prop} {D : List Deferred} {W : World} {t0 t1 t2 t3 t4 t5 t6 t7 t9 t10 t11 t12 t13 t14 t15 t16 t17 t18 t19 t20 t21 t22 t23 t24 t25 t26 t27 t28 t29 : Value} {E : Nat} (h : ∀ A, A = E → Code.wp P c Q { tmps := #[t0, t1, t2, t3, t4, t5, t6, t7, .pointer (some ⟨A, 0, none⟩), t9, t10, t11, t12, t13, t14, t15, t16, t17, t18, t19, t20, t21, t22, t23, t24, t25, t26, t27, t28, t29], defers := D } W) : Code.wp P c Q { tmps := #[t0, t1, t2, t3, t4, t5, t6, t7, .pointer (some ⟨E, 0, none⟩), t9, t10, t11, t12, t13, t14, t15, t16, t17, t18, t19, t20, t21, t22, t23, t24, t25, t26, t27, t28, t29], defers := D } W := h E rfl
/-- The zone of what has been closed. -/
def zoneM (r : MR) : (Nat → Int) × Int := if r.e = 0 then toldZ r.f else (fun _ => 0, 6)
end Go.Proofs.YtpmpapenjcemjaaGreatDoor
