/- Zones: two zones are compared bound by bound. No condition. What law31's statements begin with: its zone, and its alive. No condition but that the table of powers and strconv.ErrRange lie as they are laid. -/
import Derived.Test.YtpmpapenjcemjaaGreatDoorH5
import Derived.Test.YtpmpapenjcemjaaGreatDoorU11
import Derived.Test.YtpmpapenjcemjaaGreatDoorS5
import Derived.Test.YtpmpapenjcemjaaGreatDoorH4
namespace Go.Proofs.YtpmpapenjcemjaaGreatDoor
set_option linter.unusedSimpArgs false
set_option linter.unusedVariables false
open Go Go.RowKit Go.Shelf

/-- Are two zones the same? -/
def eq6 (a0 a1 a2 a3 a4 a5 b0 b1 b2 b3 b4 b5 : Int) : Bool := a0 == b0 && (a1 == b1 && (a2 == b2 && (a3 == b3 && (a4 == b4 && a5 == b5))))
set_option maxRecDepth 10000 in
set_option maxHeartbeats 1000000 in
@[go_sem] theorem zone_eql (a0 a1 a2 a3 a4 a5 b0 b1 b2 b3 b4 b5 : Int) (w : World) : (Op.equalIn 10000 49 (.agg #[.int .i64 a0, .int .i64 a1, .int .i64 a2, .int .i64 a3, .int .i64 a4, .int .i64 a5]) (.agg #[.int .i64 b0, .int .i64 b1, .int .i64 b2, .int .i64 b3, .int .i64 b4, .int .i64 b5])).run Tryz.prog w = .ok (eq6 a0 a1 a2 a3 a4 a5 b0 b1 b2 b3 b4 b5) w := by
  have hu3 := Tryz.underlying47
  have ha3 := Tryz.isAgg47
  have hz3 := Tryz.sizeOf47
  rw [show (10000 : Nat) = 9999 + 1 from rfl, Op.equalIn]
  simp only [Sem.run_bind, run_underlying Tryz.underlying49, Result.andThen_ok]
  simp only [Std.Legacy.Range.forIn_eq_forIn_range', Std.Legacy.Range.size, Nat.sub_zero, Nat.add_sub_cancel, Nat.div_one, List.range'_succ, List.range'_zero, List.forIn_cons, List.forIn_nil]
  go_simp
  unfold eq6
  by_cases h0 : a0 = b0
  · by_cases h1 : a1 = b1
    · by_cases h2 : a2 = b2
      · by_cases h3 : a3 = b3
        · by_cases h4 : a4 = b4 <;> by_cases h5 : a5 = b5 <;> simp [h0, h1, h2, h3, h4, h5]
        · simp [h0, h1, h2, h3]
      · simp [h0, h1, h2]
    · simp [h0, h1]
  · simp [h0]
theorem eq6_iff (a b : Nat → Int) : eq6 (a 0) (a 1) (a 2) (a 3) (a 4) (a 5) (b 0) (b 1) (b 2) (b 3) (b 4) (b 5) = true ↔ ∀ i, i < 6 → a i = b i := by
  unfold eq6
  simp only [Bool.and_eq_true, beq_iff_eq]
  constructor
  · rintro ⟨h0, h1, h2, h3, h4, h5⟩ i hi
    have : i = 0 ∨ i = 1 ∨ i = 2 ∨ i = 3 ∨ i = 4 ∨ i = 5 := by omega
    rcases this with rfl | rfl | rfl | rfl | rfl | rfl <;> assumption
  · exact fun h => ⟨h 0 (by omega), h 1 (by omega), h 2 (by omega), h 3 (by omega), h 4 (by omega), h 5 (by omega)⟩
theorem okZ_fits {z : Nat → Int} (h : okZ z = true) : FitsZ z := fun i hi => by
  rw [← shortZ_zF z i hi]
  exact mayB_fits (okD_may (okZ_facts h).1 _ (placeZ_lt i hi))
#print axioms zone_eql
end Go.Proofs.YtpmpapenjcemjaaGreatDoor

namespace Go.Proofs.YtpmpapenjcemjaaGreatDoor
set_option linter.unusedSimpArgs false
set_option linter.unusedVariables false
open Go Go.RowKit Go.Shelf
attribute [local go_sem] Nat.add_assoc Nat.add_lt_add_iff_left lit_lt_add

def tri : List UInt8 := [91, 48, 44, 50, 41, 40, 48, 44, 50, 93, 40, 48, 44, 50, 93]
theorem tri_ok : okZ (row6 4 1 5 0 5 0) = true := by decide +kernel
theorem itoa_digit {u : Nat} (h : u < 10) : Lib.itoa (u : Int) = [UInt8.ofNat (48 + u)] := by rw [Lib.itoa_nonneg, dec_small h]
theorem tri_one : oneT (row6 4 1 5 0 5 0) = tri := by
  have i0 : Lib.itoa 0 = [48] := itoa_digit (u := 0) (by omega)
  have i2 : Lib.itoa 2 = [50] := itoa_digit (u := 2) (by omega)
  have l1 : lowT 1 = [91, 48] := by
    unfold lowT
    rw [if_neg (by decide), show -((1 : Int) / 2) = 0 from rfl, i0]; decide
  have l0 : lowT 0 = [40, 48] := by
    unfold lowT
    rw [if_neg (by decide), show -((0 : Int) / 2) = 0 from rfl, i0]; decide
  have h4 : highT 4 = [50, 41] := by
    unfold highT
    rw [if_neg (by decide), show (4 : Int) / 2 = 2 from rfl, i2]; decide
  have h5 : highT 5 = [50, 93] := by
    unfold highT
    rw [if_neg (by decide), show (5 : Int) / 2 = 2 from rfl, i2]; decide
  show ivT 1 4 ++ (ivT 0 5 ++ ivT 0 5) = tri
  unfold ivT
  rw [l1, l0, h4, h5]; rfl
theorem tri_print : printT [row6 4 1 5 0 5 0] = (tri, 0) := by
  rw [print_ok (by simp [tri_ok]) (by simp), List.map_cons, List.map_nil, join_single, tri_one]
theorem tri_parse : ∃ m : Nat → Int, parseT tri = ([m], 0, 0) ∧ ∀ i, i < 6 → m i = row6 4 1 5 0 5 0 i := by
  have h := parse_print (L := [row6 4 1 5 0 5 0]) (by rw [tri_print]; decide) (by rw [tri_print])
  rw [tri_print] at h
  obtain ⟨M, h1, h2⟩ := h
  match M, h2 with
  | [m], h2 => exact ⟨m, h1, h2.1⟩
set_option maxRecDepth 100000 in
set_option maxHeartbeats 4000000 in
theorem some31_any : Pure Tryz.prog 40 #[] (.tuple #[.agg #[.int .i64 4, .int .i64 1, .int .i64 5, .int .i64 0, .int .i64 5, .int .i64 0], .bool true]) := by
  intro w
  obtain ⟨R, hR⟩ : ∃ R, R = makeZ (betwS 0 false 0 false true) (betwS 0 false 2 false false) (betwS 0 true 0 false true) := ⟨_, rfl⟩
  have v : R.2 = 0 ∧ R.1 0 = 4 ∧ R.1 1 = 1 ∧ R.1 2 = 5 ∧ R.1 3 = 0 ∧ R.1 4 = 5 ∧ R.1 5 = 0 := by rw [hR]; decide +kernel
  have MK : Hid (∀ w, Calls Tryz.prog 79 #[.agg #[.int .i64 0, .bool false, .int .i64 0, .bool false, .bool true], .agg #[.int .i64 0, .bool false, .int .i64 2, .bool false, .bool false], .agg #[.int .i64 0, .bool true, .int .i64 0, .bool false, .bool true]] w (Gives w (.tuple #[.agg #[.int .i64 4, .int .i64 1, .int .i64 5, .int .i64 0, .int .i64 5, .int .i64 0], .int .i64 0]))) := fun w => by
    have := zmake_any 0 false 0 false true 0 false 2 false false 0 true 0 false true w (by decide) (by decide) (by decide) (by decide) (by decide) (by decide)
    unfold zoneR zoneV at this
    rw [← hR, v.1, v.2.1, v.2.2.1, v.2.2.2.1, v.2.2.2.2.1, v.2.2.2.2.2.1, v.2.2.2.2.2.2] at this
    exact this
  clear v hR
  go_enter Tryz.func40, Tryz.ntmps40
  go_wp2_with (fail)
  refine (MK.out _).mono ?_; rintro e w' ⟨rfl, q4, rfl⟩
  go_wp2
  all_goals
    go_returns
    exact gives_end rfl (by (repeat' (first | (with_reducible assumption) | (with_reducible exact Below.refl _ _) | (with_reducible refine below_wov ?_ ?_ _) | (with_reducible refine below_drewN ?_ _) | (with_reducible refine Below.drew ?_) | (with_reducible refine Below.alloc ?_ ?_ _) | (with_reducible refine Below.setCell ?_ ?_ _) | (with_reducible exact Nat.le_refl _) | omega | (simp only [World.size_alloc, World.size_setCell, World.size_drew, Wov_size, World.heap_drewN]; omega))))
theorem slz_lit {W : World} {A : Nat} {z : Nat → Int} (hA : A < W.heap.size) (h : ∀ j, j < 6 → W.cell? ⟨A, j, none⟩ = some (.int .i64 (z j))) : SlZ W (some ⟨A, 0, none⟩) [z] :=
  .inr ⟨A, 0, rfl, hA, fun i j hi hj => by
    have : i = 0 := by simpa using hi
    subst this
    simpa [nthZ] using h j hj⟩
set_option maxRecDepth 100000 in
set_option maxHeartbeats 8000000 in
theorem alive31 (w : World) (ht : Tab w) (hv : ErrR w) : Calls Tryz.prog 20 #[] w (Gives w (.bool true)) := by
  obtain ⟨m, hm, hmi⟩ := tri_parse
  have PR : Hid (∀ w' A, Below w.heap.size w w' → A < w'.heap.size → w'.cell? ⟨A, 0, none⟩ = some (.int .i64 4) → w'.cell? ⟨A, 1, none⟩ = some (.int .i64 1) → w'.cell? ⟨A, 2, none⟩ = some (.int .i64 5) → w'.cell? ⟨A, 3, none⟩ = some (.int .i64 0) → w'.cell? ⟨A, 4, none⟩ = some (.int .i64 5) → w'.cell? ⟨A, 5, none⟩ = some (.int .i64 0) →
      Calls Tryz.prog 19 #[.slice (some ⟨A, 0, none⟩) 1 1] w' (Gives w' (.tuple #[.string ⟨#[91, 48, 44, 50, 41, 40, 48, 44, 50, 93, 40, 48, 44, 50, 93]⟩, .int .i64 0]))) := fun w' A hb hA c0 c1 c2 c3 c4 c5 => by
    have := print_any (some ⟨A, 0, none⟩) 1 [row6 4 1 5 0 5 0] w' (slz_lit hA fun j hj => by rcases six hj with rfl | rfl | rfl | rfl | rfl | rfl <;> assumption) (fun z hz => by
      rw [List.mem_singleton] at hz; subst hz; exact okZ_fits tri_ok) (by simp) (ht.below hb)
    rw [tri_print] at this
    exact this
  have PA : Hid (∀ w', Below w.heap.size w w' → Calls Tryz.prog 15 #[.string ⟨#[91, 48, 44, 50, 41, 40, 48, 44, 50, 93, 40, 48, 44, 50, 93]⟩] w' (fun e W => (∃ A o c, e = .returned (.tuple #[.slice (some ⟨A, o, none⟩) 1 c, .int .i64 0, .int .i64 0]) ∧ A < W.heap.size ∧ W.cell? ⟨A, o, none⟩ = some (.int .i64 4) ∧ W.cell? ⟨A, o + 1, none⟩ = some (.int .i64 1) ∧ W.cell? ⟨A, o + 2, none⟩ = some (.int .i64 5) ∧ W.cell? ⟨A, o + 3, none⟩ = some (.int .i64 0) ∧ W.cell? ⟨A, o + 4, none⟩ = some (.int .i64 5) ∧ W.cell? ⟨A, o + 5, none⟩ = some (.int .i64 0)) ∧ ∃ q, W = Wov w' q)) := fun w' hb => by
    have := parse_any tri (.inl (by decide)) w' (hv.below hb)
    rw [hm] at this
    refine this.mono ?_
    rintro e W ⟨⟨p, c, he, _, ho⟩, hq⟩
    refine ⟨?_, hq⟩
    rcases ho.slz with h | ⟨A, o, rfl, hA, hc⟩
    · cases h
    · have k := fun j (hj : j < 6) => hc 0 j (by simp) hj
      refine ⟨A, o, c, he, hA, ?_, ?_, ?_, ?_, ?_, ?_⟩
      · have := k 0 (by omega); simpa [nthZ, hmi, row6] using this
      · have := k 1 (by omega); simpa [nthZ, hmi, row6] using this
      · have := k 2 (by omega); simpa [nthZ, hmi, row6] using this
      · have := k 3 (by omega); simpa [nthZ, hmi, row6] using this
      · have := k 4 (by omega); simpa [nthZ, hmi, row6] using this
      · have := k 5 (by omega); simpa [nthZ, hmi, row6] using this
  clear hm hmi ht hv
  go_enter Tryz.func20, Tryz.ntmps20
  go_wp2_with (fail)
  refine (some31_any _).mono ?_; rintro e w' ⟨rfl, q1, rfl⟩
  go_wp2_with (fail)
  refine (PR.out _ _ (by (repeat' (first | (with_reducible assumption) | (with_reducible exact Below.refl _ _) | (with_reducible refine below_wov ?_ ?_ _) | (with_reducible refine below_drewN ?_ _) | (with_reducible refine Below.drew ?_) | (with_reducible refine Below.alloc ?_ ?_ _) | (with_reducible refine Below.setCell ?_ ?_ _) | (with_reducible exact Nat.le_refl _) | omega | (simp only [World.size_alloc, World.size_setCell, World.size_drew, Wov_size, World.heap_drewN]; omega)))) (by (first | omega | ((simp only [World.size_alloc, World.size_setCell, World.size_drew, Wov_size, World.heap_drewN, Array.size_append]) <;> omega))) (by simp [go_sem]) (by simp [go_sem]) (by simp [go_sem]) (by simp [go_sem]) (by simp [go_sem]) (by simp [go_sem])).mono ?_; rintro e w' ⟨rfl, q2, rfl⟩
  go_wp2_with (fail)
  refine (PA.out _ (by (repeat' (first | (with_reducible assumption) | (with_reducible exact Below.refl _ _) | (with_reducible refine below_wov ?_ ?_ _) | (with_reducible refine below_drewN ?_ _) | (with_reducible refine Below.drew ?_) | (with_reducible refine Below.alloc ?_ ?_ _) | (with_reducible refine Below.setCell ?_ ?_ _) | (with_reducible exact Nat.le_refl _) | omega | (simp only [World.size_alloc, World.size_setCell, World.size_drew, Wov_size, World.heap_drewN]; omega))))).mono ?_; rintro e w' ⟨⟨A, o, c, rfl, hA, c0, c1, c2, c3, c4, c5⟩, q3, rfl⟩
  go_upto_region 4 with (fail)
  (try simp only [drew_Wov, Wov_Wov, Array.append_assoc] at hA c0 c1 c2 c3 c4 c5)
  obtain ⟨B, hB⟩ : ∃ B, B = w.heap.size + q1.bl.size := ⟨_, rfl⟩
  rw [← hB]
  refine wp_world (fun X => Below w.heap.size w X ∧ BoxZ X B (row6 4 1 5 0 5 0) ∧ A < X.heap.size ∧ X.cell? ⟨A, o, none⟩ = some (.int .i64 4) ∧ X.cell? ⟨A, o + 1, none⟩ = some (.int .i64 1) ∧ X.cell? ⟨A, o + 2, none⟩ = some (.int .i64 5) ∧ X.cell? ⟨A, o + 3, none⟩ = some (.int .i64 0) ∧ X.cell? ⟨A, o + 4, none⟩ = some (.int .i64 5) ∧ X.cell? ⟨A, o + 5, none⟩ = some (.int .i64 0)) ⟨by (repeat' (first | (with_reducible assumption) | (with_reducible exact Below.refl _ _) | (with_reducible refine below_wov ?_ ?_ _) | (with_reducible refine below_drewN ?_ _) | (with_reducible refine Below.drew ?_) | (with_reducible refine Below.alloc ?_ ?_ _) | (with_reducible refine Below.setCell ?_ ?_ _) | (with_reducible exact Nat.le_refl _) | omega | (simp only [World.size_alloc, World.size_setCell, World.size_drew, Wov_size, World.heap_drewN]; omega))), ?_, hA, c0, c1, c2, c3, c4, c5⟩ ?_
  · rw [hB]
    exact ⟨by (first | omega | ((simp only [World.size_alloc, World.size_setCell, World.size_drew, Wov_size, World.heap_drewN, Array.size_append]) <;> omega)), by simp [go_sem, row6], by simp [go_sem, row6], by simp [go_sem, row6], by simp [go_sem, row6], by simp [go_sem, row6], by simp [go_sem, row6]⟩
  clear PR PA hA c0 c1 c2 c3 c4 c5 hB
  rintro X ⟨hbX, hz, lX, x0, x1, x2, x3, x4, x5⟩
  have y0 : X.cell? ⟨B, 0, none⟩ = some (.int .i64 4) := hz.c0
  have y1 : X.cell? ⟨B, 1, none⟩ = some (.int .i64 1) := hz.c1
  have y2 : X.cell? ⟨B, 2, none⟩ = some (.int .i64 5) := hz.c2
  have y3 : X.cell? ⟨B, 3, none⟩ = some (.int .i64 0) := hz.c3
  have y4 : X.cell? ⟨B, 4, none⟩ = some (.int .i64 5) := hz.c4
  have y5 : X.cell? ⟨B, 5, none⟩ = some (.int .i64 0) := hz.c5
  have ly := hz.lt
  have E : eq6 4 1 5 0 5 0 4 1 5 0 5 0 = true := by decide
  obtain ⟨T, hT⟩ : ∃ T : ByteArray, T = ⟨#[91, 48, 44, 50, 41, 40, 48, 44, 50, 93, 40, 48, 44, 50, 93]⟩ := ⟨_, rfl⟩
  rw [← hT]
  have hTT : (T.toList == T.toList) = true := by simp
  clear hT hz
  go_region
  go_wp2
  go_ret
  exact gives_bool rfl (by (repeat' (first | (with_reducible assumption) | (with_reducible exact Below.refl _ _) | (with_reducible refine below_wov ?_ ?_ _) | (with_reducible refine below_drewN ?_ _) | (with_reducible refine Below.drew ?_) | (with_reducible refine Below.alloc ?_ ?_ _) | (with_reducible refine Below.setCell ?_ ?_ _) | (with_reducible exact Nat.le_refl _) | omega | (simp only [World.size_alloc, World.size_setCell, World.size_drew, Wov_size, World.heap_drewN]; omega))))
#print axioms alive31
end Go.Proofs.YtpmpapenjcemjaaGreatDoor
