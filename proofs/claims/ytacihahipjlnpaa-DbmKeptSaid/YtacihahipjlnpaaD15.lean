/- Opening a matrix among a law's arguments; the law package's alive. No condition. -/
import Derived.Test.YtacihahipjlnpaaD14
import Derived.Deep.RegionHeld3
import Derived.OpenShut
namespace Go.Proofs.Ytacihahipjlnpaa
open Go.ChangeShapes Go.WideShapes Go.ChangeAt Go.RowKit Go.Joins
set_option linter.unusedVariables false
set_option linter.unusedSimpArgs false
attribute [local go_sem] Nat.add_assoc Nat.add_lt_add_iff_left lit_lt_add

theorem cellsDbm : Try.prog.cellsOf 24 = 2 := by kernel_rfl
theorem cellsBound : Try.prog.cellsOf 42 = 1 := by kernel_rfl

/-- A slice of bounds that came in. -/
theorem open_bounds {H : Type} {enc : TypeId × Value → H} {W : World} {n : Nat} {v : Value} {x : DataW H × List MemPlace} (h : DataW.trod enc Try.prog W 0 (fun _ => true) true n 22 [v] = some x) :
    ∃ (p : Option Addr) (N cap : Nat) (f : Nat → Int), v = .slice p N cap ∧ SlP W p N f ∧ Fits N f ∧ N ≤ maxLen := by
  rcases open_ints Try.underlying22 Try.underlying42 cellsBound h with ⟨h1, _⟩ | ⟨a, len, cap, zs, h1, hb, hl, hm, hz, _, hc, hw⟩
  · simp only [List.cons.injEq, and_true] at h1
    exact ⟨none, 0, 0, fun _ => 0, h1, .inl rfl, (fun x hx => by omega), by simp [maxLen]⟩
  · simp only [List.cons.injEq, and_true] at h1
    simp only [if_true] at hz
    refine ⟨some a, len, cap, fun x => zs.getD x 0, h1, ?_, fun x hx => ?_, by omega⟩
    · by_cases h0 : len = 0
      · exact .inl h0
      · obtain ⟨B, off, rfl, hc2⟩ := ints_at hc (by omega)
        refine .inr ⟨B, off, rfl, ?_, fun x hx => hc2 x (by omega)⟩
        have := World.block_lt_of_cell? W _ (hc2 0 (by omega))
        exact this
    · have hx2 : x < zs.length := by omega
      have : zs.getD x 0 ∈ zs := by rw [List.getD_eq_getElem?_getD, List.getElem?_eq_getElem hx2]; exact List.getElem_mem hx2
      exact fits_of_wf (hw _ this)

set_option maxRecDepth 100000 in
theorem open_dbm {H : Type} {enc : TypeId × Value → H} {W : World} {base : Nat} {v : Value} {d : DataW H} {p : List MemPlace}
    (hv : Value.okWide Try.prog W .any base 24 v) (h : DataW.Trod enc Try.prog W 0 (fun _ => true) true 24 v d p) :
    ∃ (n : Int) (p : Option Addr) (N cap : Nat) (f : Nat → Int), v = .agg #[.int .i64 n, .slice p N cap] ∧ fits64 n ∧ SlP W p N f ∧ Fits N f ∧ N ≤ maxLen := by
  obtain ⟨c0, c1, y0, y1, k, rfl, rfl, rfl, hy0, hy1⟩ := open_agg2 Try.underlying24 (by kernel_rfl) cellsDbm hv h
  obtain ⟨a, e0, rfl, wa⟩ := DataW.trod_int Try.underlying3 hy0
  simp at e0
  subst e0
  obtain ⟨p, N, cap, f, rfl, h1, h2, h3⟩ := open_bounds hy1
  exact ⟨a, p, N, cap, f, rfl, fits_of_wf wa, h1, h2, h3⟩

/-- A closed one's bounds, one by one. -/
def closeVals (n : Nat) (f : Nat → Int) : Option (List Int) := (closeI n f).map fun c => (List.range (n * n)).map c
theorem vals_some {n : Nat} {f : Nat → Int} {l : List Int} (h : closeVals n f = some l) (hok : okD n (n * n) f = true) : ∃ c, closeR n (n * n) f = (some c, 0) ∧ ∀ x, x < n * n → l[x]? = some (c x) := by
  unfold closeVals at h
  cases hc : closeI n f with
  | none => rw [hc] at h; cases h
  | some c =>
    rw [hc] at h
    simp only [Option.map_some, Option.some.injEq] at h
    refine ⟨c, ?_, fun x hx => ?_⟩
    · unfold closeR; rw [hok, if_pos rfl, show ((n : Int)).toNat = n from rfl, hc]
    · rw [← h]; simp [hx]
theorem vals_none {n : Nat} {f : Nat → Int} (h : closeVals n f = none) (hok : okD n (n * n) f = true) : closeR n (n * n) f = (none, 6) := by
  unfold closeVals at h
  cases hc : closeI n f with
  | none => unfold closeR; rw [hok, if_pos rfl, show ((n : Int)).toNat = n from rfl, hc]
  | some c => rw [hc] at h; cases h
theorem four_vals {a b c d : Int} {g : Nat → Int} (h : ∀ x, x < 2 * 2 → [a, b, c, d][x]? = some (g x)) : ∀ x, x < 4 → g x = four a b c d x := by
  intro x hx
  have := h x hx
  rcases x with _ | _ | _ | _ | x
  all_goals first | omega | (simpa [four] using this.symm)
theorem eq4 {n1 : Int} {f g : Nat → Int} (h : ∀ x, x < 4 → f x = g x) : sameB n1 4 f n1 4 g = true := by
  simp only [sameB, decide_true, Bool.true_and]
  exact eqB_t h
theorem four_fits {a b c d : Int} (ha : fits64 a) (hb : fits64 b) (hc : fits64 c) (hd : fits64 d) : Fits 4 (four a b c d) := by
  intro x hx
  rcases x with _ | _ | _ | _ | x
  all_goals first | omega | assumption

set_option maxRecDepth 100000 in
set_option maxHeartbeats 4000000 in
theorem alive4 : Pure Try.prog 21 #[] (.bool true) := by
  intro w
  have T := Lib.hid (fun w => top_ok 2 w (by omega) (by omega))
  obtain ⟨c, hc, hcv⟩ := vals_some (n := 2) (f := four 1 (-3) 9 1) (l := [1, -3, 9, 1]) (by decide +kernel) (by decide +kernel)
  have hcf := four_vals hcv
  have hno := vals_none (n := 2) (f := four 1 (-5) 3 1) (by decide +kernel) (by decide +kernel)
  have C1 : Hid (∀ B W, HoldsI W B 4 (four 1 (-3) 9 1) → B < W.heap.size → Calls Try.prog 22 #[.agg #[.int .i64 2, .slice (some ⟨B, 0, none⟩) 4 4]] W (closePost W 2 4 (some c, 0))) := fun B W h hB => by
    have := close_any 2 (some ⟨B, 0, none⟩) 4 4 (four 1 (-3) 9 1) W (by decide) (slp_of h hB) (four_fits (by decide) (by decide) (by decide) (by decide)) (by omega)
    rwa [show closeR 2 4 (four 1 (-3) 9 1) = _ from hc] at this
  have C2 : Hid (∀ B W, HoldsI W B 4 (four 1 (-5) 3 1) → B < W.heap.size → Calls Try.prog 22 #[.agg #[.int .i64 2, .slice (some ⟨B, 0, none⟩) 4 4]] W (closePost W 2 4 (none, 6))) := fun B W h hB => by
    have := close_any 2 (some ⟨B, 0, none⟩) 4 4 (four 1 (-5) 3 1) W (by decide) (slp_of h hB) (four_fits (by decide) (by decide) (by decide) (by decide)) (by omega)
    rwa [show closeR 2 4 (four 1 (-5) 3 1) = _ from hno] at this
  have E1 : Hid (sameB 2 4 (topF 2) 2 4 (four 1 9223372036854775807 9223372036854775807 1) = true) := by show _ = _; decide +kernel
  have E2 : Hid (sameB 2 4 c 2 4 (four 1 (-3) 9 1) = true) := eq4 hcf
  clear hc hcv hcf hno
  go_enter Try.func21, Try.ntmps21
  go_wp2_with (fail)
  refine (T.out _).mono ?_; rintro e w' ⟨B1, c1, rfl, hA1, hB1, hH1, p1, rfl⟩
  have HH1 := Lib.hid hH1
  clear hH1
  go_wp2_with (fail)
  refine (two_any _ _ _ _ _).mono ?_; rintro e w' ⟨B2, rfl, hA2, hB2, hH2, p2, rfl⟩
  have CC := C1.out _ _ hH2 hB2
  have HC := Lib.hid CC
  clear CC hH2 hA2 hB2
  go_wp2_with (fail)
  refine HC.out.mono ?_; rintro e w' ⟨⟨B3, c3, rfl, hA3, hB3, hH3⟩, p3, rfl⟩
  clear HC
  have HH3 := Lib.hid hH3
  clear hH3
  go_wp2_with (fail)
  refine (two_any _ _ _ _ _).mono ?_; rintro e w' ⟨B4, rfl, hA4, hB4, hH4, p4, rfl⟩
  have CC := C2.out _ _ hH4 hB4
  have HC := Lib.hid CC
  clear CC hH4 hA4 hB4
  go_wp2_with (fail)
  refine HC.out.mono ?_; rintro e w' ⟨rfl, p5, rfl⟩
  clear HC
  go_wp2_with (fail)
  obtain ⟨A1, hX1⟩ : ∃ A1, w.heap.size + p1.bl.size = A1 := ⟨_, rfl⟩
  obtain ⟨A3, hX3⟩ : ∃ A3, w.heap.size + (p1.bl.size + (1 + (p2.bl.size + p3.bl.size))) = A3 := ⟨_, rfl⟩
  rw [hX1, hX3]
  refine wp_world (fun W => Below w.heap.size w W ∧ A1 < W.heap.size ∧ A3 < W.heap.size ∧ W.cell? ⟨A1, 0, none⟩ = some (.int .i64 2) ∧ W.cell? ⟨A1, 1, none⟩ = some (.slice (some ⟨B1, 0, none⟩) 4 c1) ∧ W.cell? ⟨A3, 0, none⟩ = some (.int .i64 2) ∧ W.cell? ⟨A3, 1, none⟩ = some (.slice (some ⟨B3, 0, none⟩) 4 c3) ∧ HoldsI W B1 4 (topF 2) ∧ HoldsI W B3 4 c ∧ B1 < W.heap.size ∧ B3 < W.heap.size)
    ⟨by (repeat' (first | (with_reducible assumption) | (with_reducible exact Below.refl _ _) | (with_reducible refine below_wov ?_ ?_ _) | (with_reducible refine below_drewN ?_ _) | (with_reducible refine Below.drew ?_) | (with_reducible refine Below.alloc ?_ ?_ _) | (with_reducible refine Below.setCell ?_ ?_ _) | (with_reducible exact Nat.le_refl _) | omega | (simp only [World.size_alloc, World.size_setCell, World.size_drew, Wov_size, World.heap_drewN]; omega))), by rw [← hX1]; simp only [World.size_alloc, Wov_size, Array.size_append]; omega, by rw [← hX3]; simp only [World.size_alloc, Wov_size, Array.size_append]; omega, by rw [← hX1]; simp [go_sem], by rw [← hX1]; simp [go_sem], by rw [← hX3]; simp [go_sem], by rw [← hX3]; simp [go_sem], (by have h := HH1.out; have hb := hB1; (try simp only [Wov_Wov] at h hb); exact h.below (by (repeat' (first | (with_reducible assumption) | (with_reducible exact Below.refl _ _) | (with_reducible refine below_wov ?_ ?_ _) | (with_reducible refine below_drewN ?_ _) | (with_reducible refine Below.drew ?_) | (with_reducible refine Below.alloc ?_ ?_ _) | (with_reducible refine Below.setCell ?_ ?_ _) | (with_reducible exact Nat.le_refl _) | omega | (simp only [World.size_alloc, World.size_setCell, World.size_drew, Wov_size, World.heap_drewN]; omega)))) hb), (by have h := HH3.out; have hb := hB3; (try simp only [Wov_Wov] at h hb); exact h.below (by (repeat' (first | (with_reducible assumption) | (with_reducible exact Below.refl _ _) | (with_reducible refine below_wov ?_ ?_ _) | (with_reducible refine below_drewN ?_ _) | (with_reducible refine Below.drew ?_) | (with_reducible refine Below.alloc ?_ ?_ _) | (with_reducible refine Below.setCell ?_ ?_ _) | (with_reducible exact Nat.le_refl _) | omega | (simp only [World.size_alloc, World.size_setCell, World.size_drew, Wov_size, World.heap_drewN]; omega)))) hb), (by have hb := hB1; simp only [World.size_alloc, Wov_size, Array.size_append] at hb ⊢; omega), (by have hb := hB3; simp only [World.size_alloc, Wov_size, Array.size_append] at hb ⊢; omega)⟩ ?_
  rintro W ⟨hBw, z1, z3, f1, f2, f3, f4, hW1, hW3, y1, y3⟩
  have SM1 : Hid (∀ W' B, Below W.heap.size W W' → HoldsI W' B 4 (four 1 9223372036854775807 9223372036854775807 1) → B < W'.heap.size → Calls Try.prog 18 #[.agg #[.int .i64 2, .slice (some ⟨B1, 0, none⟩) 4 c1], .agg #[.int .i64 2, .slice (some ⟨B, 0, none⟩) 4 4]] W' (Gives W' (.bool true))) := fun W' B hb h hB => by
    have := refSame_any 2 2 _ _ 4 4 c1 4 _ _ W' (slp_later hW1 y1 hb) (slp_of h hB) (by omega)
    rwa [E1.out] at this
  have SM2 : Hid (∀ W' B, Below W.heap.size W W' → HoldsI W' B 4 (four 1 (-3) 9 1) → B < W'.heap.size → Calls Try.prog 18 #[.agg #[.int .i64 2, .slice (some ⟨B3, 0, none⟩) 4 c3], .agg #[.int .i64 2, .slice (some ⟨B, 0, none⟩) 4 4]] W' (Gives W' (.bool true))) := fun W' B hb h hB => by
    have := refSame_any 2 2 _ _ 4 4 c3 4 _ _ W' (slp_later hW3 y3 hb) (slp_of h hB) (by omega)
    rwa [E2.out] at this
  clear E1 E2 hW1 hW3 y1 y3 HH1 HH3 hX1 hX3 hA1 hB1 hA3 hB3 C1 C2 T
  go_region_held3 (fun w' => w'.cell? ⟨A1, 0, none⟩ = some (.int .i64 2) ∧ w'.cell? ⟨A1, 1, none⟩ = some (.slice (some ⟨B1, 0, none⟩) 4 c1) ∧ w'.cell? ⟨A3, 0, none⟩ = some (.int .i64 2) ∧ w'.cell? ⟨A3, 1, none⟩ = some (.slice (some ⟨B3, 0, none⟩) 4 c3))
    ((simp [go_sem, *]))
    (first
    | (go_at_call 48; ((with_reducible refine (two_any _ _ _ _ _).mono ?_); rintro e w' ⟨B, rfl, hA, hB, hH, q, rfl⟩; (try simp only [Wov_Wov, Array.append_assoc] at hH hB)))
    | (go_at_call_of 18 (Value.agg #[Value.int IntKind.i64 2, Value.slice (some ⟨B1, 0, none⟩) 4 c1]); refine (SM1.out _ _ (by (repeat' (first | (with_reducible assumption) | (with_reducible exact Below.refl _ _) | (with_reducible refine below_wov ?_ ?_ _) | (with_reducible refine below_drewN ?_ _) | (with_reducible refine Below.drew ?_) | (with_reducible refine Below.alloc ?_ ?_ _) | (with_reducible refine Below.setCell ?_ ?_ _) | (with_reducible exact Nat.le_refl _) | omega | (simp only [World.size_alloc, World.size_setCell, World.size_drew, Wov_size, World.heap_drewN]; omega)))) hH hB).mono ?_; rintro e w' ⟨rfl, q, rfl⟩; clear SM1 hH hB)
    | (go_at_call_of 18 (Value.agg #[Value.int IntKind.i64 2, Value.slice (some ⟨B3, 0, none⟩) 4 c3]); refine (SM2.out _ _ (by (repeat' (first | (with_reducible assumption) | (with_reducible exact Below.refl _ _) | (with_reducible refine below_wov ?_ ?_ _) | (with_reducible refine below_drewN ?_ _) | (with_reducible refine Below.drew ?_) | (with_reducible refine Below.alloc ?_ ?_ _) | (with_reducible refine Below.setCell ?_ ?_ _) | (with_reducible exact Nat.le_refl _) | omega | (simp only [World.size_alloc, World.size_setCell, World.size_drew, Wov_size, World.heap_drewN]; omega)))) hH hB).mono ?_; rintro e w' ⟨rfl, q, rfl⟩; clear SM2 hH hB))
  all_goals
    have hsz := hBw.size
    go_wp2
    go_ret
    exact gives_bool (by simp) (by (repeat' (first | (with_reducible assumption) | (with_reducible exact Below.refl _ _) | (with_reducible refine below_wov ?_ ?_ _) | (with_reducible refine below_drewN ?_ _) | (with_reducible refine Below.drew ?_) | (with_reducible refine Below.alloc ?_ ?_ _) | (with_reducible refine Below.setCell ?_ ?_ _) | (with_reducible exact Nat.le_refl _) | omega | (simp only [World.size_alloc, World.size_setCell, World.size_drew, Wov_size, World.heap_drewN]; omega))))
end Go.Proofs.Ytacihahipjlnpaa
