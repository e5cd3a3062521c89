/- Zones: contracts of zone.Check, zone.told and zone.Of. No condition. -/
import Derived.Test.YtpaomeilfmeheaaDoorH1
namespace Go.Proofs.YtpaomeilfmeheaaDoor
set_option linter.unusedSimpArgs false
set_option linter.unusedVariables false
open Go Go.RowKit Go.Shelf
attribute [local go_sem] Nat.add_assoc Nat.add_lt_add_iff_left lit_lt_add

def FitsZ (z : Nat → Int) : Prop := ∀ i, i < 6 → fits64 (z i)
theorem zF_fits {z : Nat → Int} (h : FitsZ z) : Fits 9 (zF z) := by
  obtain ⟨a0, a1, a2, a3, a4, a5, a6, a7, a8⟩ := zF_vals z
  intro x hx
  have : x = 0 ∨ x = 1 ∨ x = 2 ∨ x = 3 ∨ x = 4 ∨ x = 5 ∨ x = 6 ∨ x = 7 ∨ x = 8 := by omega
  rcases this with rfl | rfl | rfl | rfl | rfl | rfl | rfl | rfl | rfl
  · rw [a0]; decide
  · rw [a1]; exact h 1 (by omega)
  · rw [a2]; exact h 3 (by omega)
  · rw [a3]; exact h 0 (by omega)
  · rw [a4]; decide
  · rw [a5]; exact h 5 (by omega)
  · rw [a6]; exact h 2 (by omega)
  · rw [a7]; exact h 4 (by omega)
  · rw [a8]; decide
/-- May a zone be. -/
def okZ (z : Nat → Int) : Bool := decide ((closeM 3 9 (zF z)).e = 0) && sameM (closeM 3 9 (zF z)) ⟨3, 9, zF z, 0⟩

set_option maxRecDepth 10000 in
set_option maxHeartbeats 4000000 in
theorem zcheck_any (z : Nat → Int) (w : World) (hz : FitsZ z) : Calls Tryd.prog 15 #[zoneV z] w (Gives w (.int .i64 (rcode (okZ z)))) := by
  have MX : Hid (∀ w, Calls Tryd.prog 25 #[.agg #[.int .i64 (z 0), .int .i64 (z 1), .int .i64 (z 2), .int .i64 (z 3), .int .i64 (z 4), .int .i64 (z 5)]] w (rowPost w 3 9 (zF z))) := fun w => matrix_any z w
  have hF := zF_fits hz
  have CL : Hid (∀ w B c, SlP w (some ⟨B, 0, none⟩) 9 (zF z) → Calls Tryd.prog 26 #[.agg #[.int .i64 3, .slice (some ⟨B, 0, none⟩) 9 c]] w (matC w (closeM 3 9 (zF z)).n (closeM 3 9 (zF z)).N (closeM 3 9 (zF z)).f (closeM 3 9 (zF z)).e)) := fun w B c h => closeM_any 3 _ 9 c _ w (by decide) h hF (by omega)
  have mo := closeM_ok 3 9 (zF z)
  unfold okZ
  obtain ⟨⟨x, Z, g, e0⟩, hr⟩ : ∃ r, r = closeM 3 9 (zF z) := ⟨_, rfl⟩
  rw [← hr] at CL mo ⊢
  have hZ := mo.N
  obtain ⟨F, hFF⟩ : ∃ F, F = zF z := ⟨_, rfl⟩
  rw [← hFF] at MX CL ⊢
  have CL2 : Hid (∀ w B c, SlP w (some ⟨B, 0, none⟩) 9 F → Calls Tryd.prog 26 #[.agg #[.int .i64 3, .slice (some ⟨B, 0, none⟩) 9 c]] w (matC w x Z g e0)) := CL
  have SM : Hid (∀ w p c B c', SlP w p Z g → SlP w (some ⟨B, 0, none⟩) 9 F → Calls Tryd.prog 27 #[.agg #[.int .i64 x, .slice p Z c], .agg #[.int .i64 3, .slice (some ⟨B, 0, none⟩) 9 c']] w (Gives w (.bool (sameB x Z g 3 9 F)))) := fun w p c B c' h k => same_any x 3 p _ Z 9 c c' g F w h k (by simp only at hZ; omega)
  show Calls _ _ _ _ (Gives w (.int .i64 (rcode (decide (e0 = 0) && sameB x Z g 3 9 F))))
  obtain ⟨s, hs⟩ : ∃ s, s = sameB x Z g 3 9 F := ⟨_, rfl⟩
  rw [← hs] at SM ⊢
  clear CL hr mo hZ hFF hs hF hz
  unfold zoneV
  go_enter Tryd.func15, Tryd.ntmps15
  go_wp2_with (fail)
  refine (MX.out _).mono ?_; rintro e w' ⟨B, cp, rfl, hA, hB, hH, q1, rfl⟩
  have t1 := slp_of hH hB
  clear hA hB hH MX
  go_wp2_with (fail)
  obtain ⟨A1, hA1⟩ : ∃ A, w.heap.size + (1 + q1.bl.size) = A := ⟨_, rfl⟩
  rw [hA1]
  refine calls_world (fun W => Below w.heap.size w W ∧ BoxM W A1 3 (some ⟨B, 0, none⟩) 9 cp F) ⟨by (repeat' (first | (with_reducible assumption) | (with_reducible exact Below.refl _ _) | (with_reducible refine below_wov ?_ ?_ _) | (with_reducible refine below_drewN ?_ _) | (with_reducible refine Below.drew ?_) | (with_reducible refine Below.alloc ?_ ?_ _) | (with_reducible refine Below.setCell ?_ ?_ _) | (with_reducible exact Nat.le_refl _) | omega | (simp only [World.size_alloc, World.size_setCell, World.size_drew, Wov_size, World.heap_drewN]; omega))), BoxM.new t1 (by rw [← hA1]; simp only [Wov_size, World.size_alloc]; omega)⟩ ?_
  rintro W1 ⟨hb1, m0⟩
  have l0 := m0.lt
  have k0 := m0.c0
  have k1 := m0.c1
  have hs1 := hb1.size
  clear t1 hA1
  refine (CL2.out W1 _ _ m0.sl).mono ?_; rintro e w' ⟨⟨p2, c2, rfl, ho⟩, q2, rfl⟩
  have t2 := ho.slp
  clear ho CL2
  by_cases he : e0 = 0
  · subst he
    go_wp2_with (fail)
    refine (SM.out _ _ _ _ _ (t2.below (by (repeat' (first | (with_reducible assumption) | (with_reducible exact Below.refl _ _) | (with_reducible refine below_wov ?_ ?_ _) | (with_reducible refine below_drewN ?_ _) | (with_reducible refine Below.drew ?_) | (with_reducible refine Below.alloc ?_ ?_ _) | (with_reducible refine Below.setCell ?_ ?_ _) | (with_reducible exact Nat.le_refl _) | omega | (simp only [World.size_alloc, World.size_setCell, World.size_drew, Wov_size, World.heap_drewN]; omega))))) (m0.sl.below (by (repeat' (first | (with_reducible assumption) | (with_reducible exact Below.refl _ _) | (with_reducible refine below_wov ?_ ?_ _) | (with_reducible refine below_drewN ?_ _) | (with_reducible refine Below.drew ?_) | (with_reducible refine Below.alloc ?_ ?_ _) | (with_reducible refine Below.setCell ?_ ?_ _) | (with_reducible exact Nat.le_refl _) | omega | (simp only [World.size_alloc, World.size_setCell, World.size_drew, Wov_size, World.heap_drewN]; omega)))))).mono ?_; rintro e w' ⟨rfl, q3, rfl⟩
    clear SM t2
    cases s with
    | true =>
      go_wp2
      go_ret
      exact gives_int rfl (by (repeat' (first | (with_reducible assumption) | (with_reducible exact Below.refl _ _) | (with_reducible refine below_wov ?_ ?_ _) | (with_reducible refine below_drewN ?_ _) | (with_reducible refine Below.drew ?_) | (with_reducible refine Below.alloc ?_ ?_ _) | (with_reducible refine Below.setCell ?_ ?_ _) | (with_reducible exact Nat.le_refl _) | omega | (simp only [World.size_alloc, World.size_setCell, World.size_drew, Wov_size, World.heap_drewN]; omega))))
    | false =>
      go_wp2
      go_ret
      exact gives_int rfl (by (repeat' (first | (with_reducible assumption) | (with_reducible exact Below.refl _ _) | (with_reducible refine below_wov ?_ ?_ _) | (with_reducible refine below_drewN ?_ _) | (with_reducible refine Below.drew ?_) | (with_reducible refine Below.alloc ?_ ?_ _) | (with_reducible refine Below.setCell ?_ ?_ _) | (with_reducible exact Nat.le_refl _) | omega | (simp only [World.size_alloc, World.size_setCell, World.size_drew, Wov_size, World.heap_drewN]; omega))))
  · have be : (e0 != 0) = true := by rw [bne_iff_ne]; exact he
    have hd : Hid (decide (e0 = 0) = false) := decide_eq_false he
    clear he SM t2
    go_wp2
    go_ret
    exact gives_int (by rw [hd.out]; rfl) (by (repeat' (first | (with_reducible assumption) | (with_reducible exact Below.refl _ _) | (with_reducible refine below_wov ?_ ?_ _) | (with_reducible refine below_drewN ?_ _) | (with_reducible refine Below.drew ?_) | (with_reducible refine Below.alloc ?_ ?_ _) | (with_reducible refine Below.setCell ?_ ?_ _) | (with_reducible exact Nat.le_refl _) | omega | (simp only [World.size_alloc, World.size_setCell, World.size_drew, Wov_size, World.heap_drewN]; omega))))

/-- A zone under way, of a matrix. -/
def tF (f : Nat → Int) : Nat → Nat → Int
  | 0 => fun _ => 0
  | t + 1 => upd (tF f t) t (f (placeZ t))
theorem tF_six (f : Nat → Int) : zoneV (tF f 6) = zoneV (shortZ f) := rfl
/-- A result: a zone and an error's number. -/
def zoneR (z : Nat → Int) (e : Int) : Value := .tuple #[zoneV z, .int .i64 e]
/-- The zone of a closed matrix, if it may be handed in. -/
def toldZ (f : Nat → Int) : (Nat → Int) × Int := if okD 3 9 f then (shortZ f, 0) else (fun _ => 0, 8)

/-- The zone of a matrix, or the error. -/
def ofZ (n : Int) (N : Nat) (f : Nat → Int) : (Nat → Int) × Int :=
  if okD n N f then (if n = 3 then (if (closeM n N f).e = 0 then toldZ (closeM n N f).f else (fun _ => 0, (closeM n N f).e)) else (fun _ => 0, 40)) else (fun _ => 0, 8)

end Go.Proofs.YtpaomeilfmeheaaDoor
