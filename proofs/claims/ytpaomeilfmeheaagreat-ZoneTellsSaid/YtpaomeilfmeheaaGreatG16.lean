/- Contracts of the document's pick, Picked and Pick (layer 6). -/
import Derived.Test.YtpaomeilfmeheaaGreatG15
namespace Go.Proofs.YtpaomeilfmeheaaGreat
set_option linter.unusedSimpArgs false
set_option linter.unusedVariables false
open Go Go.RowKit Go.Shelf
attribute [local go_sem] Nat.add_assoc Nat.add_lt_add_iff_left lit_lt_add

/-- A result's cells, not yet written. -/
structure ResZ (W : World) (R : Nat) : Prop where
  lt : R < W.heap.size
  c0 : W.cell? ⟨R, 0, none⟩ = some (.int .i64 0)
  c1 : W.cell? ⟨R, 1, none⟩ = some (.int .i64 0)
  z0 : W.frozen? ⟨R, 0, none⟩ = false
  z1 : W.frozen? ⟨R, 1, none⟩ = false
theorem ResZ.below {W V : World} {R : Nat} (h : ResZ W R) (hb : Below W.heap.size W V) : ResZ V R :=
  ⟨Nat.lt_of_lt_of_le h.lt hb.size, (hb.cell (p := ⟨R, 0, none⟩) h.lt).trans h.c0, (hb.cell (p := ⟨R, 1, none⟩) h.lt).trans h.c1, (hb.frozen (p := ⟨R, 0, none⟩) h.lt).trans h.z0, (hb.frozen (p := ⟨R, 1, none⟩) h.lt).trans h.z1⟩

set_option maxRecDepth 10000 in
set_option maxHeartbeats 8000000 in
theorem ref6pick_any (n m : Nat) (p1 p2 : Option Addr) (c1 c2 : Nat) (f t : Nat → Int) (w : World) (hn : n ≤ 4) (hm : m < n) (hm0 : 1 ≤ m) (hS1 : SlP w p1 (n * n) f) (hS2 : SlR w p2 m (q8T t)) (OK : PickOK (fun k => f (k * n + m)) (fun k => f (m * n + k)) t m) :
    Calls Tryz.prog 101 #[.agg #[.int .i64 n, .slice p1 (n * n) c1], .slice p2 m c2] w (Gives w (.agg #[.int .i64 (q8 (pickE (lowF (fun k => f (k * n + m)) t m) (lowF (fun k => f (m * n + k)) (fun k => -(t k)) m))).1, .int .i64 (q8 (pickE (lowF (fun k => f (k * n + m)) t m) (lowF (fun k => f (m * n + k)) (fun k => -(t k)) m))).2])) := by
  have hf' : ∀ k, k < m → flipF n f (k * n + m) = f (m * n + k) := fun k hk => flipF_at hm
  have hfl : lowF (fun k => flipF n f (k * n + m)) (fun k => -(t k)) m = lowF (fun k => f (m * n + k)) (fun k => -(t k)) m := by
    have : ∀ j, j ≤ m → lowF (fun k => flipF n f (k * n + m)) (fun k => -(t k)) j = lowF (fun k => f (m * n + k)) (fun k => -(t k)) j := by
      intro j hj
      induction j with
      | zero => rfl
      | succ j ih => unfold lowF; rw [ih (by omega), hf' j (by omega)]
    exact this m (Nat.le_refl _)
  have LO := Lib.hid (fun (W : World) (hb : Below w.heap.size w W) => ref6low_any n m p1 p2 c1 c2 f t W hn hm hm0 (hS1.below hb) (hS2.below hb) OK.ts OK.lob OK.lo)
  have HI : Hid (∀ W B cap p c, SlP W (some ⟨B, 0, none⟩) (n * n) (flipF n f) → SlR W p m (q8T (fun k => -(t k))) → Calls Tryz.prog 114 #[.agg #[.int .i64 n, .slice (some ⟨B, 0, none⟩) (n * n) cap], .slice p m c] W (Gives W (.tuple #[.bool (lowS (lowF (fun k => f (m * n + k)) (fun k => -(t k)) m)).1, .agg #[.int .i64 (q8 (lowS (lowF (fun k => f (m * n + k)) (fun k => -(t k)) m)).2.1).1, .int .i64 (q8 (lowS (lowF (fun k => f (m * n + k)) (fun k => -(t k)) m)).2.1).2], .bool (lowS (lowF (fun k => f (m * n + k)) (fun k => -(t k)) m)).2.2]))) := fun W B cap p c h1 h2 => by
    have := ref6low_any n m (some ⟨B, 0, none⟩) p cap c (flipF n f) (fun k => -(t k)) W hn hm hm0 h1 h2 (fun k hk => (OK.ts k hk).neg) (fun k hk => by rw [hf' k hk]; exact OK.hib k hk) (fun k hk hne => by
      rw [hf' k hk] at hne ⊢
      obtain ⟨x, y⟩ := OK.hi k hk hne
      refine ⟨x, ?_⟩
      have := y.neg
      rwa [show -(t k + 8 * (f (m * n + k) / 2)) = -(t k) - 8 * (f (m * n + k) / 2) from by omega] at this)
    rw [hfl] at this; exact this
  have OT := Lib.hid (fun (W : World) (hb : Below w.heap.size w W) => other_any n p1 c1 f W (by omega) hn (hS1.below hb))
  have TU := Lib.hid (fun (W : World) (hb : Below w.heap.size w W) => turned_any m p2 c2 t W hm0 (by omega) (hS2.below hb) OK.ts)
  have PF := pick_facts OK rfl rfl
  obtain ⟨L, hL⟩ : ∃ L, L = lowF (fun k => f (k * n + m)) t m := ⟨_, rfl⟩
  obtain ⟨H, hH⟩ : ∃ H, H = lowF (fun k => f (m * n + k)) (fun k => -(t k)) m := ⟨_, rfl⟩
  rw [← hL] at LO PF ⊢
  rw [← hH] at HI PF ⊢
  obtain ⟨F, hF⟩ : ∃ F, F = flipF n f := ⟨_, rfl⟩
  obtain ⟨T, hT⟩ : ∃ T, T = q8T (fun k => -(t k)) := ⟨_, rfl⟩
  rw [← hF] at HI OT
  rw [← hT] at HI TU
  obtain ⟨N, hN⟩ : ∃ N, N = n * n := ⟨_, rfl⟩
  rw [← hN] at LO HI OT ⊢
  obtain ⟨va, hva⟩ : ∃ v, Hid (v = (q8 (pickE L H)).1) := ⟨_, rfl⟩
  obtain ⟨vb, hvb⟩ : ∃ v, Hid (v = (q8 (pickE L H)).2) := ⟨_, rfl⟩
  rw [← hva.out, ← hvb.out]
  obtain ⟨⟨li, ly, ls⟩, hls⟩ : ∃ r, r = lowS L := ⟨_, rfl⟩
  obtain ⟨⟨gi, gy, gs⟩, hgs⟩ : ∃ r, r = lowS H := ⟨_, rfl⟩
  rw [← hls] at LO
  rw [← hgs] at HI
  have LO2 : Hid (∀ W, Below w.heap.size w W → Calls Tryz.prog 114 #[.agg #[.int .i64 n, .slice p1 N c1], .slice p2 m c2] W (Gives W (.tuple #[.bool li, .agg #[.int .i64 (q8 ly).1, .int .i64 (q8 ly).2], .bool ls]))) := LO
  have HI2 : Hid (∀ W B cap p c, SlP W (some ⟨B, 0, none⟩) N F → SlR W p m T → Calls Tryz.prog 114 #[.agg #[.int .i64 n, .slice (some ⟨B, 0, none⟩) N cap], .slice p m c] W (Gives W (.tuple #[.bool gi, .agg #[.int .i64 (q8 gy).1, .int .i64 (q8 gy).2], .bool gs]))) := HI
  have hyo : ok8 (-gy) := by
    have := lowS_ok PF.hi
    rw [← hgs] at this; exact this.neg
  have hyf := q8_fits hyo
  rw [q8_neg] at hyf
  simp only at hyf
  have hLS := Lib.hid hls
  have hGS := Lib.hid hgs
  have hw : IntKind.i64.wrap (0 - (q8 gy).1) = -(q8 gy).1 := by unfold fits64 at hyf; rw [IntWalk.i64_in _ (by omega)]; omega
  have hw2 : IntKind.i64.wrap (-(q8 gy).1) = -(q8 gy).1 := by unfold fits64 at hyf; rw [IntWalk.i64_in _ (by omega)]
  have hng : Hid ((q8 (-gy)).1 = -(q8 gy).1 ∧ (q8 (-gy)).2 = (q8 gy).2) := by show _ ∧ _; rw [q8_neg]; exact ⟨rfl, rfl⟩
  clear LO HI hls hgs hyo hyf hf' hfl hL hH hF hT hN OK hS1 hS2
  go_enter Tryz.func101, Tryz.ntmps101
  go_wp2_with (fail)
  refine calls_world (fun W => Below w.heap.size w W ∧ w.heap.size + 1 < W.heap.size ∧ W.cell? ⟨w.heap.size, 0, none⟩ = some (.int .i64 n) ∧ W.cell? ⟨w.heap.size, 1, none⟩ = some (.slice p1 N c1) ∧ W.cell? ⟨w.heap.size + 1, 0, none⟩ = some (.int .i64 0) ∧ W.cell? ⟨w.heap.size + 1, 1, none⟩ = some (.int .i64 0) ∧ W.frozen? ⟨w.heap.size + 1, 0, none⟩ = false ∧ W.frozen? ⟨w.heap.size + 1, 1, none⟩ = false) ⟨by (repeat' (first | (with_reducible assumption) | (with_reducible exact Below.refl _ _) | (with_reducible refine below_wov ?_ ?_ _) | (with_reducible refine below_drewN ?_ _) | (with_reducible refine Below.drew ?_) | (with_reducible refine Below.alloc ?_ ?_ _) | (with_reducible refine Below.setCell ?_ ?_ _) | (with_reducible exact Nat.le_refl _) | omega | (simp only [World.size_alloc, World.size_setCell, World.size_drew, Wov_size, World.heap_drewN]; omega))), by (first | omega | ((simp only [World.size_alloc, World.size_setCell, World.size_drew, Wov_size, World.heap_drewN, Array.size_append]) <;> omega)), by ((repeat (first | (with_reducible refine Eq.trans (World.cell?_drewN _ _ _) ?_) | (with_reducible refine Eq.trans (World.cell?_drew _ _) ?_) | (with_reducible refine Eq.trans (World.cell?_alloc_past _ _ _ ?hsz) ?_; case hsz => (first | omega | ((simp only [World.size_alloc, World.size_setCell, World.size_drew, Wov_size, World.heap_drewN, Array.size_append]) <;> omega))) | (with_reducible refine Eq.trans (Wov_cell_past _ _ _ _ ?hsz) ?_; case hsz => (first | omega | ((simp only [World.size_alloc, World.size_setCell, World.size_drew, Wov_size, World.heap_drewN, Array.size_append]) <;> omega))) | (with_reducible refine Eq.trans (World.cell?_alloc_at _ _ _ _ ?hsz) ?_; case hsz => (first | omega | ((simp only [World.size_alloc, World.size_setCell, World.size_drew, Wov_size, World.heap_drewN, Array.size_append]) <;> omega))))) <;> first | rfl | assumption | (simp; done)), by ((repeat (first | (with_reducible refine Eq.trans (World.cell?_drewN _ _ _) ?_) | (with_reducible refine Eq.trans (World.cell?_drew _ _) ?_) | (with_reducible refine Eq.trans (World.cell?_alloc_past _ _ _ ?hsz) ?_; case hsz => (first | omega | ((simp only [World.size_alloc, World.size_setCell, World.size_drew, Wov_size, World.heap_drewN, Array.size_append]) <;> omega))) | (with_reducible refine Eq.trans (Wov_cell_past _ _ _ _ ?hsz) ?_; case hsz => (first | omega | ((simp only [World.size_alloc, World.size_setCell, World.size_drew, Wov_size, World.heap_drewN, Array.size_append]) <;> omega))) | (with_reducible refine Eq.trans (World.cell?_alloc_at _ _ _ _ ?hsz) ?_; case hsz => (first | omega | ((simp only [World.size_alloc, World.size_setCell, World.size_drew, Wov_size, World.heap_drewN, Array.size_append]) <;> omega))))) <;> first | rfl | assumption | (simp; done)), by ((repeat (first | (with_reducible refine Eq.trans (World.cell?_drewN _ _ _) ?_) | (with_reducible refine Eq.trans (World.cell?_drew _ _) ?_) | (with_reducible refine Eq.trans (World.cell?_alloc_past _ _ _ ?hsz) ?_; case hsz => (first | omega | ((simp only [World.size_alloc, World.size_setCell, World.size_drew, Wov_size, World.heap_drewN, Array.size_append]) <;> omega))) | (with_reducible refine Eq.trans (Wov_cell_past _ _ _ _ ?hsz) ?_; case hsz => (first | omega | ((simp only [World.size_alloc, World.size_setCell, World.size_drew, Wov_size, World.heap_drewN, Array.size_append]) <;> omega))) | (with_reducible refine Eq.trans (World.cell?_alloc_at _ _ _ _ ?hsz) ?_; case hsz => (first | omega | ((simp only [World.size_alloc, World.size_setCell, World.size_drew, Wov_size, World.heap_drewN, Array.size_append]) <;> omega))))) <;> first | rfl | assumption | (simp; done)), by ((repeat (first | (with_reducible refine Eq.trans (World.cell?_drewN _ _ _) ?_) | (with_reducible refine Eq.trans (World.cell?_drew _ _) ?_) | (with_reducible refine Eq.trans (World.cell?_alloc_past _ _ _ ?hsz) ?_; case hsz => (first | omega | ((simp only [World.size_alloc, World.size_setCell, World.size_drew, Wov_size, World.heap_drewN, Array.size_append]) <;> omega))) | (with_reducible refine Eq.trans (Wov_cell_past _ _ _ _ ?hsz) ?_; case hsz => (first | omega | ((simp only [World.size_alloc, World.size_setCell, World.size_drew, Wov_size, World.heap_drewN, Array.size_append]) <;> omega))) | (with_reducible refine Eq.trans (World.cell?_alloc_at _ _ _ _ ?hsz) ?_; case hsz => (first | omega | ((simp only [World.size_alloc, World.size_setCell, World.size_drew, Wov_size, World.heap_drewN, Array.size_append]) <;> omega))))) <;> first | rfl | assumption | (simp; done)), by simp [go_sem], by simp [go_sem]⟩ ?_
  rintro W1 ⟨hb1, z1, k0, k1, r0, r1, rz0, rz1⟩
  refine (LO2.out W1 hb1).mono ?_; rintro e w' ⟨rfl, q1, rfl⟩
  have hs1 := hb1.size
  go_wp2_with (fail)
  refine (OT.out _ (by (repeat' (first | (with_reducible assumption) | (with_reducible exact Below.refl _ _) | (with_reducible refine below_wov ?_ ?_ _) | (with_reducible refine below_drewN ?_ _) | (with_reducible refine Below.drew ?_) | (with_reducible refine Below.alloc ?_ ?_ _) | (with_reducible refine Below.setCell ?_ ?_ _) | (with_reducible exact Nat.le_refl _) | omega | (simp only [World.size_alloc, World.size_setCell, World.size_drew, Wov_size, World.heap_drewN]; omega))))).mono ?_; rintro e w' ⟨B3, cap3, rfl, hA3, hB3, hH3, q2, rfl⟩
  have t3 := slp_of hH3 hB3
  clear hA3 hB3 hH3
  go_wp2_with (fail)
  obtain ⟨A1, hA1⟩ : ∃ A, W1.heap.size + q1.bl.size = A := ⟨_, rfl⟩
  rw [hA1]
  refine calls_world (fun W => Below w.heap.size w W ∧ ResZ W (w.heap.size + 1) ∧ BoxR W A1 (q8 ly).1 (q8 ly).2 ∧ SlP W (some ⟨B3, 0, none⟩) N F) ⟨by (repeat' (first | (with_reducible assumption) | (with_reducible exact Below.refl _ _) | (with_reducible refine below_wov ?_ ?_ _) | (with_reducible refine below_drewN ?_ _) | (with_reducible refine Below.drew ?_) | (with_reducible refine Below.alloc ?_ ?_ _) | (with_reducible refine Below.setCell ?_ ?_ _) | (with_reducible exact Nat.le_refl _) | omega | (simp only [World.size_alloc, World.size_setCell, World.size_drew, Wov_size, World.heap_drewN]; omega))), (ResZ.mk z1 r0 r1 rz0 rz1 : ResZ W1 _).below (by (repeat' (first | (with_reducible assumption) | (with_reducible exact Below.refl _ _) | (with_reducible refine below_wov ?_ ?_ _) | (with_reducible refine below_drewN ?_ _) | (with_reducible refine Below.drew ?_) | (with_reducible refine Below.alloc ?_ ?_ _) | (with_reducible refine Below.setCell ?_ ?_ _) | (with_reducible exact Nat.le_refl _) | omega | (simp only [World.size_alloc, World.size_setCell, World.size_drew, Wov_size, World.heap_drewN]; omega)))), (BoxR.new (W := Wov W1 q1) (t := 29) (by rw [← hA1]; (try simp only [Wov_size]))).below (by (repeat' (first | (with_reducible assumption) | (with_reducible exact Below.refl _ _) | (with_reducible refine below_wov ?_ ?_ _) | (with_reducible refine below_drewN ?_ _) | (with_reducible refine Below.drew ?_) | (with_reducible refine Below.alloc ?_ ?_ _) | (with_reducible refine Below.setCell ?_ ?_ _) | (with_reducible exact Nat.le_refl _) | omega | (simp only [World.size_alloc, World.size_setCell, World.size_drew, Wov_size, World.heap_drewN]; omega)))), t3⟩ ?_
  rintro W2 ⟨hb2, m20, m21, m22⟩
  have hs2 := hb2.size
  have f20 := m20.lt
  have f21 := m21.lt
  clear hb1 z1 k0 k1 r0 r1 rz0 rz1 hs1 t3 hA1 OT LO2
  refine (TU.out W2 hb2).mono ?_; rintro e w' ⟨⟨pt, ct, rfl, t4⟩, q3, rfl⟩
  go_wp2_with (fail)
  refine (HI2.out _ _ _ _ _ (m22.below (by (repeat' (first | (with_reducible assumption) | (with_reducible exact Below.refl _ _) | (with_reducible refine below_wov ?_ ?_ _) | (with_reducible refine below_drewN ?_ _) | (with_reducible refine Below.drew ?_) | (with_reducible refine Below.alloc ?_ ?_ _) | (with_reducible refine Below.setCell ?_ ?_ _) | (with_reducible exact Nat.le_refl _) | omega | (simp only [World.size_alloc, World.size_setCell, World.size_drew, Wov_size, World.heap_drewN]; omega))))) t4).mono ?_; rintro e w' ⟨rfl, q4, rfl⟩
  clear t4 TU HI2
  have r0 := m20.c0
  have r1 := m20.c1
  have rz0 := m20.z0
  have rz1 := m20.z1
  have a0 := m21.c0
  have a1' := m21.c1
  have HNG := hng
  clear hng m22
  rcases L with _ | ⟨y, sy⟩
  · obtain ⟨rfl, rfl, rfl⟩ : li = false ∧ ly = 0 ∧ ls = false := by simpa [lowS] using hLS.out
    rcases H with _ | ⟨z, sz⟩
    · obtain ⟨rfl, rfl, rfl⟩ : gi = false ∧ gy = 0 ∧ gs = false := by simpa [lowS] using hGS.out
      clear PF
      go_wp2
      refine bodyPost_ret (by simp [results, Tryz.results101, go_sem, r0, r1, f20]; try rfl) rfl ?_
      exact gives_end (by rw [hva.out, hvb.out]; (simp only [pickE]) <;> (first | rfl | (rw [q8_neg]) | (rw [q8_zero]))) (by (repeat' (first | (with_reducible assumption) | (with_reducible exact Below.refl _ _) | (with_reducible refine below_wov ?_ ?_ _) | (with_reducible refine below_drewN ?_ _) | (with_reducible refine Below.drew ?_) | (with_reducible refine Below.alloc ?_ ?_ _) | (with_reducible refine Below.setCell ?_ ?_ _) | (with_reducible exact Nat.le_refl _) | omega | (simp only [World.size_alloc, World.size_setCell, World.size_drew, Wov_size, World.heap_drewN]; omega))))
    · obtain ⟨rfl, rfl, rfl⟩ : gi = true ∧ gy = z ∧ gs = sz := by simpa [lowS] using hGS.out
      cases gs with
      | false =>
        clear PF
        go_wp2
        refine bodyPost_ret (by simp [results, Tryz.results101, go_sem, r0, r1, f20]; try rfl) rfl ?_
        exact gives_end (by rw [hva.out, hvb.out]; (simp only [pickE]) <;> (first | rfl | (rw [q8_neg]) | (rw [q8_zero]))) (by (repeat' (first | (with_reducible assumption) | (with_reducible exact Below.refl _ _) | (with_reducible refine below_wov ?_ ?_ _) | (with_reducible refine below_drewN ?_ _) | (with_reducible refine Below.drew ?_) | (with_reducible refine Below.alloc ?_ ?_ _) | (with_reducible refine Below.setCell ?_ ?_ _) | (with_reducible exact Nat.le_refl _) | omega | (simp only [World.size_alloc, World.size_setCell, World.size_drew, Wov_size, World.heap_drewN]; omega))))
      | true =>
        have a1 := PF.hi _ _ rfl
        have a2 := PF.res
        simp only [pickE] at a2
        have SH := refShift_any (-gy) (-1) a1.neg (by unfold ok8; omega) (by have := a2; rwa [show -gy - 8 = -gy + 8 * (-1) from by omega] at this)
        rw [show -gy + 8 * (-1) = -gy - 8 from by omega] at SH
        rw [q8_neg] at SH
        simp only at SH
        have SH' := Lib.hid SH
        clear PF a1 a2 SH
        go_wp2_with (fail)
        refine (SH'.out _).mono ?_; rintro e w' ⟨rfl, qs, rfl⟩
        go_wp2
        refine bodyPost_ret (by simp [results, Tryz.results101, go_sem, r0, r1, f20]; try rfl) rfl ?_
        exact gives_end (by rw [hva.out, hvb.out]; (simp only [pickE]) <;> (first | rfl | (rw [q8_neg]) | (rw [q8_zero]))) (by (repeat' (first | (with_reducible assumption) | (with_reducible exact Below.refl _ _) | (with_reducible refine below_wov ?_ ?_ _) | (with_reducible refine below_drewN ?_ _) | (with_reducible refine Below.drew ?_) | (with_reducible refine Below.alloc ?_ ?_ _) | (with_reducible refine Below.setCell ?_ ?_ _) | (with_reducible exact Nat.le_refl _) | omega | (simp only [World.size_alloc, World.size_setCell, World.size_drew, Wov_size, World.heap_drewN]; omega))))
  · obtain ⟨rfl, rfl, rfl⟩ : li = true ∧ ly = y ∧ ls = sy := by simpa [lowS] using hLS.out
    rcases H with _ | ⟨z, sz⟩
    · obtain ⟨rfl, rfl, rfl⟩ : gi = false ∧ gy = 0 ∧ gs = false := by simpa [lowS] using hGS.out
      cases ls with
      | false =>
        clear PF
        go_wp2
        refine bodyPost_ret (by simp [results, Tryz.results101, go_sem, r0, r1, f20]; try rfl) rfl ?_
        exact gives_end (by rw [hva.out, hvb.out]; (simp only [pickE]) <;> (first | rfl | (rw [q8_neg]) | (rw [q8_zero]))) (by (repeat' (first | (with_reducible assumption) | (with_reducible exact Below.refl _ _) | (with_reducible refine below_wov ?_ ?_ _) | (with_reducible refine below_drewN ?_ _) | (with_reducible refine Below.drew ?_) | (with_reducible refine Below.alloc ?_ ?_ _) | (with_reducible refine Below.setCell ?_ ?_ _) | (with_reducible exact Nat.le_refl _) | omega | (simp only [World.size_alloc, World.size_setCell, World.size_drew, Wov_size, World.heap_drewN]; omega))))
      | true =>
        have a1 := PF.lo _ _ rfl
        have a2 := PF.res
        simp only [pickE] at a2
        have SH := refShift_any (ly) (1) a1 (by unfold ok8; omega) (by have := a2; rwa [show ly + 8 = ly + 8 * (1) from by omega] at this)
        rw [show ly + 8 * (1) = ly + 8 from by omega] at SH
        have SH' := Lib.hid SH
        clear PF a1 a2 SH
        go_wp2_with (fail)
        refine (SH'.out _).mono ?_; rintro e w' ⟨rfl, qs, rfl⟩
        go_wp2
        refine bodyPost_ret (by simp [results, Tryz.results101, go_sem, r0, r1, f20]; try rfl) rfl ?_
        exact gives_end (by rw [hva.out, hvb.out]; (simp only [pickE]) <;> (first | rfl | (rw [q8_neg]) | (rw [q8_zero]))) (by (repeat' (first | (with_reducible assumption) | (with_reducible exact Below.refl _ _) | (with_reducible refine below_wov ?_ ?_ _) | (with_reducible refine below_drewN ?_ _) | (with_reducible refine Below.drew ?_) | (with_reducible refine Below.alloc ?_ ?_ _) | (with_reducible refine Below.setCell ?_ ?_ _) | (with_reducible exact Nat.le_refl _) | omega | (simp only [World.size_alloc, World.size_setCell, World.size_drew, Wov_size, World.heap_drewN]; omega))))
    · obtain ⟨rfl, rfl, rfl⟩ : gi = true ∧ gy = z ∧ gs = sz := by simpa [lowS] using hGS.out
      cases ls with
      | false =>
        clear PF
        go_wp2
        refine bodyPost_ret (by simp [results, Tryz.results101, go_sem, r0, r1, f20]; try rfl) rfl ?_
        exact gives_end (by rw [hva.out, hvb.out]; (simp only [pickE]) <;> (first | rfl | (rw [q8_neg]) | (rw [q8_zero]))) (by (repeat' (first | (with_reducible assumption) | (with_reducible exact Below.refl _ _) | (with_reducible refine below_wov ?_ ?_ _) | (with_reducible refine below_drewN ?_ _) | (with_reducible refine Below.drew ?_) | (with_reducible refine Below.alloc ?_ ?_ _) | (with_reducible refine Below.setCell ?_ ?_ _) | (with_reducible exact Nat.le_refl _) | omega | (simp only [World.size_alloc, World.size_setCell, World.size_drew, Wov_size, World.heap_drewN]; omega))))
      | true =>
        cases gs with
        | false =>
          clear PF
          go_wp2
          refine bodyPost_ret (by simp [results, Tryz.results101, go_sem, r0, r1, f20]; try rfl) rfl ?_
          exact gives_end (by rw [hva.out, hvb.out]; (simp only [pickE]) <;> (first | rfl | (rw [q8_neg]) | (rw [q8_zero]))) (by (repeat' (first | (with_reducible assumption) | (with_reducible exact Below.refl _ _) | (with_reducible refine below_wov ?_ ?_ _) | (with_reducible refine below_drewN ?_ _) | (with_reducible refine Below.drew ?_) | (with_reducible refine Below.alloc ?_ ?_ _) | (with_reducible refine Below.setCell ?_ ?_ _) | (with_reducible exact Nat.le_refl _) | omega | (simp only [World.size_alloc, World.size_setCell, World.size_drew, Wov_size, World.heap_drewN]; omega))))
        | true =>
          have a1 := PF.lo _ _ rfl
          have a2 := (PF.hi _ _ rfl).neg
          have a3 := PF.even _ _ _ _ rfl rfl
          have a4 := PF.res
          simp only [pickE] at a4
          have MD := refMid_any (q8 ly).1 (q8 ly).2 (q8 (-gy)).1 (q8 (-gy)).2 (q8_fits a1) (q8_fits a2)
          rw [mid8 (m := (ly + -gy) / 2) a1 a2 (by omega) a4, q8_neg] at MD
          simp only at MD
          have MD' : Hid (Pure Tryz.prog 117 #[.agg #[.int .i64 (q8 ly).1, .int .i64 (q8 ly).2], .agg #[.int .i64 (-(q8 gy).1), .int .i64 (q8 gy).2]] (.tuple #[.agg #[.int .i64 (q8 ((ly + -gy) / 2)).1, .int .i64 (q8 ((ly + -gy) / 2)).2], .int .i64 0])) := MD
          clear PF a1 a2 a3 a4 MD
          go_wp2_with (fail)
          refine (MD'.out _).mono ?_; rintro e w' ⟨rfl, qs, rfl⟩
          go_wp2
          refine bodyPost_ret (by simp [results, Tryz.results101, go_sem, r0, r1, f20]; try rfl) rfl ?_
          exact gives_end (by rw [hva.out, hvb.out]; (simp only [pickE]) <;> (first | rfl | (rw [q8_neg]) | (rw [q8_zero]))) (by (repeat' (first | (with_reducible assumption) | (with_reducible exact Below.refl _ _) | (with_reducible refine below_wov ?_ ?_ _) | (with_reducible refine below_drewN ?_ _) | (with_reducible refine Below.drew ?_) | (with_reducible refine Below.alloc ?_ ?_ _) | (with_reducible refine Below.setCell ?_ ?_ _) | (with_reducible exact Nat.le_refl _) | omega | (simp only [World.size_alloc, World.size_setCell, World.size_drew, Wov_size, World.heap_drewN]; omega))))

set_option maxRecDepth 10000 in
set_option maxHeartbeats 4000000 in
theorem picked_any (n : Nat) (p : Option Addr) (cap : Nat) (f c : Nat → Int) (w : World) (hn0 : 1 ≤ n) (hn : n ≤ 4) (hS : SlP w p (n * n) c) (hok : okD n (n * n) f = true) (K : ClosedI n f c) :
    Calls Tryz.prog 72 #[.agg #[.int .i64 n, .slice p (n * n) cap]] w (rowR w (n - 1) (fun k => q8 (pickT n c (k + 1)))) := by
  have hq1 : 1 * 1 ≤ n * n := Nat.mul_le_mul hn0 hn0
  have hq0 : n * n ≤ 4 * 4 := Nat.mul_le_mul hn hn
  have PK : Hid (∀ W p1 c1 p2 c2 k, k + 1 < n → SlP W p1 (n * n) c → SlR W p2 (k + 1) (q8T (pickT n c)) → Calls Tryz.prog 101 #[.agg #[.int .i64 n, .slice p1 (n * n) c1], .slice p2 (k + 1) c2] W (Gives W (.agg #[.int .i64 (q8 (pickT n c (k + 1))).1, .int .i64 (q8 (pickT n c (k + 1))).2]))) := fun W p1 c1 p2 c2 k hk h1 h2 => by
    have := ref6pick_any n (k + 1) p1 p2 c1 c2 c (pickT n c) W hn hk (by omega) h1 h2 (picks_ok hn (okD_bd hok).2.2 K (by omega) hk).1
    rwa [← pickT_succ] at this
  have i1 := infoR
  have i2 := infoRz
  obtain ⟨i0, hi⟩ : ∃ i0, Tryz.prog.info? 29 = some i0 := by
    cases h : Tryz.prog.info? 29 with
    | none => rw [h] at i1; cases i1
    | some i => exact ⟨i, rfl⟩
  rw [hi] at i1 i2
  simp only [Option.map_some, Option.some.injEq, Prod.mk.injEq] at i1 i2
  have HI := Lib.hid hi
  have HZ : Hid (i0.zero = some (.agg #[.int .i64 0, .int .i64 0])) := i2
  have H1 : Hid (i0.size = 2) := i1.1
  have H2 : Hid (i0.bytes = 16) := i1.2
  obtain ⟨T, hT⟩ : ∃ T, Hid (T = pickT n c) := ⟨_, rfl⟩
  rw [← hT.out] at PK ⊢
  have hT0 : Hid (T 0 = 0) := by show _ = _; rw [hT.out]; rfl
  obtain ⟨N, hN⟩ : ∃ N, N = n * n := ⟨_, rfl⟩
  rw [← hN] at PK hS hq0 hq1 ⊢
  have SC := Lib.hid hS
  clear hi i1 i2 hN hS hok K hT
  go_enter Tryz.func72, Tryz.ntmps72
  go_wp2
  refine wp_world (fun W => Below w.heap.size w W ∧ w.heap.size + 1 ≤ W.heap.size ∧ W.cell? ⟨w.heap.size, 0, none⟩ = some (.int .i64 n) ∧ W.cell? ⟨w.heap.size, 1, none⟩ = some (.slice p N cap) ∧ W.ownsRow (w.heap.size + 1) 29 2 (.slice (some ⟨w.heap.size + 1, 0, none⟩) 1 1) 1 [.int .i64 0, .int .i64 1]) ⟨by (repeat' (first | (with_reducible assumption) | (with_reducible exact Below.refl _ _) | (with_reducible refine below_wov ?_ ?_ _) | (with_reducible refine below_drewN ?_ _) | (with_reducible refine Below.drew ?_) | (with_reducible refine Below.alloc ?_ ?_ _) | (with_reducible refine Below.setCell ?_ ?_ _) | (with_reducible exact Nat.le_refl _) | omega | (simp only [World.size_alloc, World.size_setCell, World.size_drew, Wov_size, World.heap_drewN]; omega))), by simp, by simp [go_sem], by simp [go_sem], ?_⟩ ?_
  · have := row_lit (w.alloc (.cells #[.int .i64 n, .slice p N cap] 27)) (q8T T) (w.heap.size + 1) (by simp)
    simpa using this
  rintro W ⟨hbW, hzW, d0, d1, hR⟩
  have hR1 : W.ownsRow (w.heap.size + 1) 29 2 (.slice (some ⟨w.heap.size + 1, 0, none⟩) 1 1) 1 (cellsR (q8T T) 1) := by
    have e : q8T T 0 = (0, 1) := by unfold q8T; rw [hT0.out]; rfl
    show W.ownsRow _ _ 2 _ 1 (cellsR (q8T T) 0 ++ [.int .i64 (q8T T 0).1, .int .i64 (q8T T 0).2])
    rw [e]; exact hR
  have hBW := Lib.hid hbW
  obtain ⟨B0, hB0⟩ : ∃ B0, w.heap.size + 1 = B0 := ⟨_, rfl⟩
  rw [hB0] at hzW hR1 ⊢
  have hwB : w.heap.size < B0 := by omega
  clear hR hB0
  go_loopw [3, 4] (fun v i wr => ∃ k : Nat, k + 1 ≤ n ∧ i = .int .i64 ((k : Int) + 1) ∧ (∃ g cp, v = .slice (some ⟨g, 0, none⟩) (k + 1) cp) ∧ Below B0 W wr ∧ Hid (wr.ownsRow B0 29 2 v (k + 1) (cellsR (q8T T) (k + 1))))
    (fun _ i _ => n - (intOf i).toNat)
  case atStart => exact ⟨0, hn0, rfl, ⟨B0, 1, rfl⟩, Below.refl _ _, hR1⟩
  case round =>
    obtain ⟨k, hk, rfl, ⟨g, cp, rfl⟩, hB, hR⟩ := hrel
    clear hR1
    have hszr := hB.size
    have k0 := (hB.cell (p := ⟨w.heap.size, 0, none⟩) hwB).trans d0
    have k1 := (hB.cell (p := ⟨w.heap.size, 1, none⟩) hwB).trans d1
    have hww := Lib.hid (hBW.out.trans (hB.mono (by omega)))
    by_cases hlt : k + 1 < n
    · have hC2 : SlP wr p N c := SC.out.below hww.out
      obtain ⟨g', cp', e, hg1, hg2, hg3⟩ := holdsR_of_row (by omega) hR.out
      have hR2 : SlR wr (some ⟨g, 0, none⟩) (k + 1) (q8T T) := by
        cases e; exact slR_of hg3 hg2
      have PK2 := Lib.hid (PK.out wr _ cap _ cp k hlt hC2 hR2)
      obtain ⟨a, ha⟩ : ∃ a, Hid (a = (q8 (T (k + 1))).1) := ⟨_, rfl⟩
      obtain ⟨b, hb⟩ : ∃ b, Hid (b = (q8 (T (k + 1))).2) := ⟨_, rfl⟩
      rw [← ha.out, ← hb.out] at PK2
      have hd : decide ((k : Int) + 1 < (n : Int)) = true := by simp; omega
      clear e hg1 hg2 hg3 hC2 hR2 PK
      go_wp2_with (fail)
      refine PK2.out.mono ?_; rintro e X ⟨rfl, hX⟩
      have hbX : Below wr.heap.size wr X := by obtain ⟨q, rfl⟩ := hX; exact below_Wov wr q
      have hzX := hbX.size
      have hrow := row_later hR.out hbX
      have HR := Lib.hid hrow
      have step : Hid (∀ v' w1, w1.ownsRow B0 29 2 v' (k + 1 + 1) (cellsR (q8T T) (k + 1) ++ [.int .i64 a, .int .i64 b]) → (X.alloc (.cells #[.int .i64 a, .int .i64 b] 29)).grownBy w1 (some g) →
          Below B0 W w1 ∧ w1.ownsRow B0 29 2 v' (k + 1 + 1) (cellsR (q8T T) (k + 1 + 1))) := fun v' w1 ho hg =>
        ⟨(hB.trans (hbX.mono (by omega))).trans (app2_below HR.out (by omega) hg), by rw [ha.out, hb.out] at ho; exact ho⟩
      clear hrow hX
      go_wp2_with (at_builtin; refine wpList_append_own _ rfl _ _ 67 rfl B0 29 i0 (.agg #[.int .i64 0, .int .i64 0]) 2 16 Tryz.underlying67 HI.out HZ.out H1.out H2.out rfl (by decide) _ _ _ rfl (HR.out.alloc _) ⟨X.heap.size, 0, none⟩ 1 1 [.int .i64 a, .int .i64 b] rfl rfl (cell_two_new _ _ _ _) (by simp [Value.oneCell']) (by unfold maxLen; omega) (by omega) (by simp; omega) ?_; (intro v' w1 hown' hgrow _; obtain ⟨g', cap', rfl⟩ := ownsRow_succ hown'; obtain ⟨k2, k3⟩ := step.out _ w1 hown' hgrow; clear hown' hgrow))
      go_roundw
      case rel => exact ⟨k + 1, by omega, by go_num, ⟨g', cap', rfl⟩, k2, k3⟩
      case measure => simp [intOf]; omega
    · obtain ⟨g', cp', e, hg1, hg2, hg3⟩ := holdsR_of_row (by omega) hR.out
      obtain ⟨_, ⟨h, _⟩ | ⟨g2, cp2, cur, e2, _, _, hcp, hcm, _, _⟩⟩ := hR.out
      · cases h
      obtain ⟨rfl, rfl⟩ : g = g' ∧ cp = cp' := by cases e; exact ⟨rfl, rfl⟩
      obtain ⟨rfl, rfl⟩ : g = g2 ∧ cp = cp2 := by cases e2; exact ⟨rfl, rfl⟩
      have hkn : k + 1 = n := by omega
      have hres : Hid (SlR wr (some ⟨g, 2, none⟩) (n - 1) (fun k => q8 (T (k + 1)))) := by
        rcases Nat.eq_zero_or_pos (n - 1) with h | h
        · exact .inl h
        · refine .inr ⟨g, 2, rfl, hg2, fun x hx => ?_⟩
          have := hg3 (x + 1) (by omega)
          rw [show (x + 1) * 2 = 2 + x * 2 from by omega, Nat.add_assoc] at this
          exact this
      have hd : decide ((k : Int) + 1 < (n : Int)) = false := by simp; omega
      clear e e2 hg3 hR PK
      unfold maxLen at hcm
      go_wp2
      all_goals
        go_returns
        first
        | exact ⟨⟨_, _, rfl, hres.out⟩, Wov_of_below hww.out⟩
        | exact ⟨⟨_, _, rfl, .inl (by omega)⟩, Wov_of_below hww.out⟩

end Go.Proofs.YtpaomeilfmeheaaGreat
