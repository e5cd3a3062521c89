/- Zones: contracts of zone.In, Meet and Pick. No condition. -/
import Derived.Test.YtpaomeilfmeheaaGreatH8
namespace Go.Proofs.YtpaomeilfmeheaaGreat
set_option linter.unusedSimpArgs false
set_option linter.unusedVariables false
open Go Go.RowKit Go.Shelf
attribute [local go_sem] Nat.add_assoc Nat.add_lt_add_iff_left lit_lt_add

/-- Grown by more. -/
theorem below_app (W : World) (q : Gr) (r : Array Obj) (d : Nat) : Below (Wov W q).heap.size (Wov W q) (Wov W ⟨q.bl ++ r, d⟩) := by
  have := below_Wov (Wov W q) ⟨r, d⟩
  rwa [Wov_Wov] at this
theorem below_app2 (W : World) (a b : Array Obj) (c : Nat) (r : Array Obj) (d : Nat) : Below (Wov W ⟨a ++ b, c⟩).heap.size (Wov W ⟨a ++ b, c⟩) (Wov W ⟨a ++ (b ++ r), d⟩) := by
  have := below_app W ⟨a ++ b, c⟩ r d
  rwa [show (⟨a ++ b, c⟩ : Gr).bl ++ r = a ++ (b ++ r) from Array.append_assoc] at this
theorem below_app0 (W : World) (q : Gr) (d : Nat) : Below (Wov W q).heap.size (Wov W q) (Wov W ⟨q.bl, d⟩) := ⟨rfl, rfl, rfl, Nat.le_refl _, fun _ _ => rfl⟩
theorem slp_other {W : World} {B N C x : Nat} {f : Nat → Int} {v : Value} (h : SlP W (some ⟨B, 0, none⟩) N f) (hB : B < W.heap.size) (hn : B ≠ C) : SlP (W.setCell ⟨C, x, none⟩ v) (some ⟨B, 0, none⟩) N f := by
  rcases h with h | ⟨B', o, e, h1, h2⟩
  · exact .inl h
  · simp only [Option.some.injEq, Addr.mk.injEq] at e
    obtain ⟨rfl, rfl, _⟩ := e
    exact .inr ⟨B, 0, rfl, by simp only [World.size_setCell]; exact hB, fun y hy => ((Chg.set W C x v).cell hB hn).trans (h2 y hy)⟩

set_option maxRecDepth 10000 in
set_option maxHeartbeats 4000000 in
theorem zin_any (a b : Nat → Int) (w : World) (ha : FitsZ a) (hb : FitsZ b) : Calls Tryz.prog 10 #[zoneV a, zoneV b] w (Gives w (pairBE (inZ a b))) := by
  have CH0 : ∀ w A, TwoZ w A a b → Calls Tryz.prog 34 #[.slice (some ⟨A, 0, none⟩) 2 2] w (Gives w (.int .i64 (rcode (okZ a && okZ b)))) := fun w A h => zchecked_any A a b w h ha hb
  have MA : Hid (∀ w, Calls Tryz.prog 21 #[.agg #[.int .i64 (a 0), .int .i64 (a 1), .int .i64 (a 2), .int .i64 (a 3), .int .i64 (a 4), .int .i64 (a 5)]] w (rowPost w 3 9 (zF a))) := fun w => matrix_any a w
  have MB : Hid (∀ w, Calls Tryz.prog 21 #[.agg #[.int .i64 (b 0), .int .i64 (b 1), .int .i64 (b 2), .int .i64 (b 3), .int .i64 (b 4), .int .i64 (b 5)]] w (rowPost w 3 9 (zF b))) := fun w => matrix_any b w
  have IN0 : ∀ w B B' c c', SlP w (some ⟨B, 0, none⟩) 9 (zF a) → SlP w (some ⟨B', 0, none⟩) 9 (zF b) → Calls Tryz.prog 35 #[.agg #[.int .i64 3, .slice (some ⟨B, 0, none⟩) 9 c], .agg #[.int .i64 3, .slice (some ⟨B', 0, none⟩) 9 c']] w (Gives w (pairBE (inR 3 9 (zF a) 3 9 (zF b)))) := fun w B B' c c' h k => in_any 3 _ 9 c _ 3 _ 9 c' _ w (by decide) (by decide) h k (zF_fits ha) (zF_fits hb) (by omega) (by omega)
  unfold inZ
  cases ok : (okZ a && okZ b)
  · rw [ok] at CH0
    simp only [rcode_f, Bool.false_eq_true, if_false] at CH0 ⊢
    have CH := Lib.hid CH0
    clear CH0 IN0 MA MB ok
    show Calls _ _ _ _ (Gives w (.tuple #[.bool false, .int .i64 8]))
    unfold zoneV
    go_enter Tryz.func10, Tryz.ntmps10
    go_wp2_with (fail)
    refine (CH.out _ _ (by constructor <;> simp [go_sem])).mono ?_; rintro e w' ⟨rfl, q1, rfl⟩
    go_wp2
    go_returns
    exact gives_end rfl (by (repeat' (first | (with_reducible assumption) | (with_reducible exact Below.refl _ _) | (with_reducible refine below_wov ?_ ?_ _) | (with_reducible refine below_drewN ?_ _) | (with_reducible refine Below.drew ?_) | (with_reducible refine Below.alloc ?_ ?_ _) | (with_reducible refine Below.setCell ?_ ?_ _) | (with_reducible exact Nat.le_refl _) | omega | (simp only [World.size_alloc, World.size_setCell, World.size_drew, Wov_size, World.heap_drewN]; omega))))
  · rw [ok] at CH0
    simp only [rcode_t, if_true] at CH0 ⊢
    have CH := Lib.hid CH0
    obtain ⟨FA, hFA⟩ : ∃ F, F = zF a := ⟨_, rfl⟩
    obtain ⟨FB, hFB⟩ : ∃ F, F = zF b := ⟨_, rfl⟩
    rw [← hFA] at MA IN0 ⊢
    rw [← hFB] at MB IN0 ⊢
    obtain ⟨x, e0, hbe⟩ : ∃ b e0, inR 3 9 FA 3 9 FB = (b, e0) := ⟨_, _, rfl⟩
    rw [hbe] at IN0 ⊢
    have IN : Hid (∀ w B B' c c', SlP w (some ⟨B, 0, none⟩) 9 FA → SlP w (some ⟨B', 0, none⟩) 9 FB → Calls Tryz.prog 35 #[.agg #[.int .i64 3, .slice (some ⟨B, 0, none⟩) 9 c], .agg #[.int .i64 3, .slice (some ⟨B', 0, none⟩) 9 c']] w (Gives w (.tuple #[.bool x, .int .i64 e0]))) := IN0
    clear CH0 IN0 ok hFA hFB hbe ha hb
    show Calls _ _ _ _ (Gives w (.tuple #[.bool x, .int .i64 e0]))
    unfold zoneV
    go_enter Tryz.func10, Tryz.ntmps10
    go_wp2_with (fail)
    refine (CH.out _ _ (by constructor <;> simp [go_sem])).mono ?_; rintro e w' ⟨rfl, q1, rfl⟩
    go_wp2
    refine wp_world (fun W => Below w.heap.size w W ∧ BoxZ W w.heap.size a ∧ BoxZ W (w.heap.size + 1) b) ⟨by (repeat' (first | (with_reducible assumption) | (with_reducible exact Below.refl _ _) | (with_reducible refine below_wov ?_ ?_ _) | (with_reducible refine below_drewN ?_ _) | (with_reducible refine Below.drew ?_) | (with_reducible refine Below.alloc ?_ ?_ _) | (with_reducible refine Below.setCell ?_ ?_ _) | (with_reducible exact Nat.le_refl _) | omega | (simp only [World.size_alloc, World.size_setCell, World.size_drew, Wov_size, World.heap_drewN]; omega))), (BoxZ.new (W := w) (t := 24) rfl).below (by (repeat' (first | (with_reducible assumption) | (with_reducible exact Below.refl _ _) | (with_reducible refine below_wov ?_ ?_ _) | (with_reducible refine below_drewN ?_ _) | (with_reducible refine Below.drew ?_) | (with_reducible refine Below.alloc ?_ ?_ _) | (with_reducible refine Below.setCell ?_ ?_ _) | (with_reducible exact Nat.le_refl _) | omega | (simp only [World.size_alloc, World.size_setCell, World.size_drew, Wov_size, World.heap_drewN]; omega)))), (BoxZ.new (W := w.alloc (.cells #[.int .i64 (a 0), .int .i64 (a 1), .int .i64 (a 2), .int .i64 (a 3), .int .i64 (a 4), .int .i64 (a 5)] 24)) (t := 24) (by simp)).below (by (repeat' (first | (with_reducible assumption) | (with_reducible exact Below.refl _ _) | (with_reducible refine below_wov ?_ ?_ _) | (with_reducible refine below_drewN ?_ _) | (with_reducible refine Below.drew ?_) | (with_reducible refine Below.alloc ?_ ?_ _) | (with_reducible refine Below.setCell ?_ ?_ _) | (with_reducible exact Nat.le_refl _) | omega | (simp only [World.size_alloc, World.size_setCell, World.size_drew, Wov_size, World.heap_drewN]; omega))))⟩ ?_
    rintro W ⟨hbW, ⟨al, a0, a1, a2, a3, a4, a5⟩, ⟨bl, b0, b1, b2, b3, b4, b5⟩⟩
    have hsW := hbW.size
    clear CH
    go_region_held3 (fun w' => w'.cell? ⟨w.heap.size, 0, none⟩ = some (.int .i64 (a 0)) ∧ w'.cell? ⟨w.heap.size, 1, none⟩ = some (.int .i64 (a 1)) ∧ w'.cell? ⟨w.heap.size, 2, none⟩ = some (.int .i64 (a 2)) ∧ w'.cell? ⟨w.heap.size, 3, none⟩ = some (.int .i64 (a 3)) ∧ w'.cell? ⟨w.heap.size, 4, none⟩ = some (.int .i64 (a 4)) ∧ w'.cell? ⟨w.heap.size, 5, none⟩ = some (.int .i64 (a 5)) ∧ w'.cell? ⟨w.heap.size + 1, 0, none⟩ = some (.int .i64 (b 0)) ∧ w'.cell? ⟨w.heap.size + 1, 1, none⟩ = some (.int .i64 (b 1)) ∧ w'.cell? ⟨w.heap.size + 1, 2, none⟩ = some (.int .i64 (b 2)) ∧ w'.cell? ⟨w.heap.size + 1, 3, none⟩ = some (.int .i64 (b 3)) ∧ w'.cell? ⟨w.heap.size + 1, 4, none⟩ = some (.int .i64 (b 4)) ∧ w'.cell? ⟨w.heap.size + 1, 5, none⟩ = some (.int .i64 (b 5)))
          ((simp [go_sem, *]))
          (first
          | (go_at_call_of 21 (Value.int IntKind.i64 (a 0)); ((with_reducible refine (MA.out _).mono ?_); rintro e w' ⟨BA, cpa, rfl, hA1, hB1, hH1, qa, rfl⟩; have t1 := slp_of hH1 hB1; clear hA1 hB1 hH1))
          | (go_at_call_of 21 (Value.int IntKind.i64 (b 0)); ((with_reducible refine (MB.out _).mono ?_); rintro e w' ⟨BB, cpb, rfl, hA2, hB2, hH2, qb, rfl⟩; have t2 := slp_of hH2 hB2; clear hA2 hB2 hH2))
          | (go_at_call 35; (try simp only [drew_Wov, Wov_Wov, Array.append_assoc] at t1); (try simp only [drew_Wov, Wov_Wov, Array.append_assoc] at t2); refine (IN.out _ _ _ _ _ (t1.below (by (repeat' (first | (with_reducible assumption) | (with_reducible exact Below.refl _ _) | (with_reducible exact below_app _ _ _ _) | (with_reducible exact below_app2 _ _ _ _ _ _) | (with_reducible exact below_app0 _ _ _) | (with_reducible refine below_wov ?_ ?_ _) | (with_reducible refine below_drewN ?_ _) | (with_reducible refine Below.drew ?_) | (with_reducible refine Below.alloc ?_ ?_ _) | (with_reducible refine Below.setCell ?_ ?_ _) | (with_reducible exact Nat.le_refl _) | omega | (simp only [World.size_alloc, World.size_setCell, World.size_drew, Wov_size, World.heap_drewN, Array.size_append]; omega))))) (t2.below (by (repeat' (first | (with_reducible assumption) | (with_reducible exact Below.refl _ _) | (with_reducible exact below_app _ _ _ _) | (with_reducible exact below_app2 _ _ _ _ _ _) | (with_reducible exact below_app0 _ _ _) | (with_reducible refine below_wov ?_ ?_ _) | (with_reducible refine below_drewN ?_ _) | (with_reducible refine Below.drew ?_) | (with_reducible refine Below.alloc ?_ ?_ _) | (with_reducible refine Below.setCell ?_ ?_ _) | (with_reducible exact Nat.le_refl _) | omega | (simp only [World.size_alloc, World.size_setCell, World.size_drew, Wov_size, World.heap_drewN, Array.size_append]; omega)))))).mono ?_; rintro e w' ⟨rfl, qc, rfl⟩; clear t1 t2))
    all_goals
      go_wp2
      go_returns
      exact gives_end rfl (by (repeat' (first | (with_reducible assumption) | (with_reducible exact Below.refl _ _) | (with_reducible refine below_wov ?_ ?_ _) | (with_reducible refine below_drewN ?_ _) | (with_reducible refine Below.drew ?_) | (with_reducible refine Below.alloc ?_ ?_ _) | (with_reducible refine Below.setCell ?_ ?_ _) | (with_reducible exact Nat.le_refl _) | omega | (simp only [World.size_alloc, World.size_setCell, World.size_drew, Wov_size, World.heap_drewN]; omega))))

theorem HoldsA.point {W : World} {A : Nat} {t : TypeId} (hA : A = W.heap.size) : HoldsA (W.alloc (.cells #[.int .i64 0, .int .i64 0, .int .i64 0, .int .i64 0] t)) A 4 (fun _ => 0) := by
  subst hA
  refine ⟨by simp, fun x hx => ?_⟩
  have : x = 0 ∨ x = 1 ∨ x = 2 ∨ x = 3 := by omega
  rcases this with rfl | rfl | rfl | rfl <;> (constructor <;> simp [go_sem])
/-- A result: a point and an error's number. -/
def pointV (T : Nat → Int × Int) : Value := .agg #[.int .i64 (T 0).1, .int .i64 (T 0).2, .int .i64 (T 1).1, .int .i64 (T 1).2]
def pointR (T : Nat → Int × Int) (e : Int) : Value := .tuple #[pointV T, .int .i64 e]

set_option maxRecDepth 10000 in
set_option maxHeartbeats 4000000 in
theorem zpick_any (z : Nat → Int) (w : World) (hz : FitsZ z) : Calls Tryz.prog 14 #[zoneV z] w (Gives w (pointR (pickZ z).1 (pickZ z).2)) := by
  have MX : Hid (∀ w, Calls Tryz.prog 21 #[.agg #[.int .i64 (z 0), .int .i64 (z 1), .int .i64 (z 2), .int .i64 (z 3), .int .i64 (z 4), .int .i64 (z 5)]] w (rowPost w 3 9 (zF z))) := fun w => matrix_any z w
  have CK0 : ∀ w, Calls Tryz.prog 17 #[.agg #[.int .i64 (z 0), .int .i64 (z 1), .int .i64 (z 2), .int .i64 (z 3), .int .i64 (z 4), .int .i64 (z 5)]] w (Gives w (.int .i64 (rcode (okZ z)))) := fun w => zcheck_any z w hz
  unfold pickZ
  cases kz : okZ z
  · rw [kz] at CK0
    simp only [rcode_f, Bool.false_eq_true, if_false] at CK0 ⊢
    have CK := Lib.hid CK0
    clear CK0 MX kz
    unfold pointR pointV zoneV
    go_enter Tryz.func14, Tryz.ntmps14
    go_wp2_with (fail)
    refine (CK.out _).mono ?_; rintro e w' ⟨rfl, q1, rfl⟩
    go_wp2
    go_returns
    exact gives_end rfl (by (repeat' (first | (with_reducible assumption) | (with_reducible exact Below.refl _ _) | (with_reducible refine below_wov ?_ ?_ _) | (with_reducible refine below_drewN ?_ _) | (with_reducible refine Below.drew ?_) | (with_reducible refine Below.alloc ?_ ?_ _) | (with_reducible refine Below.setCell ?_ ?_ _) | (with_reducible exact Nat.le_refl _) | omega | (simp only [World.size_alloc, World.size_setCell, World.size_drew, Wov_size, World.heap_drewN]; omega))))
  · rw [kz] at CK0
    simp only [rcode_t, if_true] at CK0 ⊢
    have CK := Lib.hid CK0
    obtain ⟨oz, c, hc, K, _⟩ := okZ_facts kz
    have hp : pickR 3 9 (zF z) = ⟨2, fun k => q8 (pickT 3 c (k + 1)), 0⟩ := pickR_ok hc
    have IP0 : ∀ w B cc, SlP w (some ⟨B, 0, none⟩) 9 (zF z) → Calls Tryz.prog 39 #[.agg #[.int .i64 3, .slice (some ⟨B, 0, none⟩) 9 cc]] w (ratC w (pickR 3 9 (zF z)).M (pickR 3 9 (zF z)).T (pickR 3 9 (zF z)).e) := fun w B cc h => incPick_any 3 _ 9 cc _ w (by decide) h (zF_fits hz) (by omega)
    rw [hp] at IP0 ⊢
    obtain ⟨F, hFF⟩ : ∃ F, F = zF z := ⟨_, rfl⟩
    rw [← hFF] at MX IP0
    obtain ⟨T, hT⟩ : ∃ T : Nat → Int × Int, T = fun k => q8 (pickT 3 c (k + 1)) := ⟨_, rfl⟩
    have IP : Hid (∀ w B cc, SlP w (some ⟨B, 0, none⟩) 9 F → Calls Tryz.prog 39 #[.agg #[.int .i64 3, .slice (some ⟨B, 0, none⟩) 9 cc]] w (ratC w 2 T 0)) := by rw [hT]; exact IP0
    show Calls _ _ _ _ (Gives w (pointR (fun k => q8 (pickT 3 c (k + 1))) 0))
    rw [← hT]
    clear CK0 IP0 kz oz hc K hp hFF hT hz
    unfold pointR pointV zoneV
    go_enter Tryz.func14, Tryz.ntmps14
    go_wp2_with (fail)
    refine (CK.out _).mono ?_; rintro e w' ⟨rfl, q1, rfl⟩
    go_wp2_with (fail)
    refine (MX.out _).mono ?_; rintro e w' ⟨B, cp, rfl, hA, hB, hH, q2, rfl⟩
    have t1 := slp_of hH hB
    clear hA hB hH MX CK
    go_wp2_with (fail)
    (try simp only [drew_Wov, Wov_Wov, Array.append_assoc] at t1)
    refine (IP.out _ _ _ (t1.below (by (repeat' (first | (with_reducible assumption) | (with_reducible exact Below.refl _ _) | (with_reducible exact below_app _ _ _ _) | (with_reducible exact below_app2 _ _ _ _ _ _) | (with_reducible exact below_app0 _ _ _) | (with_reducible refine below_wov ?_ ?_ _) | (with_reducible refine below_drewN ?_ _) | (with_reducible refine Below.drew ?_) | (with_reducible refine Below.alloc ?_ ?_ _) | (with_reducible refine Below.setCell ?_ ?_ _) | (with_reducible exact Nat.le_refl _) | omega | (simp only [World.size_alloc, World.size_setCell, World.size_drew, Wov_size, World.heap_drewN, Array.size_append]; omega)))))).mono ?_; rintro e w' ⟨⟨pp, cc, rfl, hl⟩, q3, rfl⟩
    obtain ⟨BB, off, rfl, hBB, hcc⟩ := hl.resolve_left (by omega)
    obtain ⟨k0, k1⟩ := hcc 0 (by omega)
    obtain ⟨k2, k3⟩ := hcc 1 (by omega)
    simp only [Nat.zero_mul, Nat.add_zero, Nat.zero_add, Nat.one_mul] at k0 k1 k2 k3
    clear hcc hl t1 IP
    go_wp2
    refine wp_world (fun W => Below w.heap.size w W ∧ HoldsA W (w.heap.size + 1) 4 (fun _ => 0) ∧ BB < W.heap.size ∧ W.cell? ⟨BB, off, none⟩ = some (.int .i64 (T 0).1) ∧ W.cell? ⟨BB, off + 1, none⟩ = some (.int .i64 (T 0).2) ∧ W.cell? ⟨BB, off + 2, none⟩ = some (.int .i64 (T 1).1) ∧ W.cell? ⟨BB, off + 3, none⟩ = some (.int .i64 (T 1).2)) ?hyp ?_
    case hyp =>
      simp only [drew_Wov, Wov_Wov, Array.append_assoc] at hBB k0 k1 k2 k3
      exact ⟨by (repeat' (first | (with_reducible assumption) | (with_reducible exact Below.refl _ _) | (with_reducible refine below_wov ?_ ?_ _) | (with_reducible refine below_drewN ?_ _) | (with_reducible refine Below.drew ?_) | (with_reducible refine Below.alloc ?_ ?_ _) | (with_reducible refine Below.setCell ?_ ?_ _) | (with_reducible exact Nat.le_refl _) | omega | (simp only [World.size_alloc, World.size_setCell, World.size_drew, Wov_size, World.heap_drewN]; omega))), (HoldsA.point (W := w.alloc (.cells #[.int .i64 (z 0), .int .i64 (z 1), .int .i64 (z 2), .int .i64 (z 3), .int .i64 (z 4), .int .i64 (z 5)] 24)) (t := 31) (by simp)).below (by (repeat' (first | (with_reducible assumption) | (with_reducible exact Below.refl _ _) | (with_reducible refine below_wov ?_ ?_ _) | (with_reducible refine below_drewN ?_ _) | (with_reducible refine Below.drew ?_) | (with_reducible refine Below.alloc ?_ ?_ _) | (with_reducible refine Below.setCell ?_ ?_ _) | (with_reducible exact Nat.le_refl _) | omega | (simp only [World.size_alloc, World.size_setCell, World.size_drew, Wov_size, World.heap_drewN]; omega)))), hBB, k0, k1, k2, k3⟩
    rintro W ⟨hbW, ⟨rl, rH⟩, g0, g1, g2, g3, g4⟩
    have hsW := hbW.size
    have r0 := (rH 0 (by omega)).1
    have y0 := (rH 0 (by omega)).2
    have r1 := (rH 1 (by omega)).1
    have y1 := (rH 1 (by omega)).2
    have r2 := (rH 2 (by omega)).1
    have y2 := (rH 2 (by omega)).2
    have r3 := (rH 3 (by omega)).1
    have y3 := (rH 3 (by omega)).2
    clear rH hBB k0 k1 k2 k3
    go_region
    go_wp2
    refine bodyPost_ret (by simp [results, Tryz.results14, go_sem, r0, r1, r2, r3, rl]; try rfl) rfl ?_
    exact gives_end rfl (by (repeat' (first | (with_reducible assumption) | (with_reducible exact Below.refl _ _) | (with_reducible refine below_wov ?_ ?_ _) | (with_reducible refine below_drewN ?_ _) | (with_reducible refine Below.drew ?_) | (with_reducible refine Below.alloc ?_ ?_ _) | (with_reducible refine Below.setCell ?_ ?_ _) | (with_reducible exact Nat.le_refl _) | omega | (simp only [World.size_alloc, World.size_setCell, World.size_drew, Wov_size, World.heap_drewN]; omega))))
end Go.Proofs.YtpaomeilfmeheaaGreat
