/- Contracts of rallentandoref03's Add and Mid. No condition but that numbers are of their kind. -/
import Derived.Test.YtacihahipjlnpaaRef3d
import Derived.Deep.RegionHeld3
namespace Go.Proofs.Ytacihahipjlnpaa
set_option linter.unusedSimpArgs false
set_option linter.unusedVariables false
open Go Go.RowKit

set_option maxRecDepth 10000 in
set_option maxHeartbeats 1000000 in
theorem refAdd_walk (n1 d1 n2 d2 X Y R S A B E W T Q L x y : Int) (s : Bool) (w : World) (hd1 : 1 ≤ d1 ∧ d1 ≤ 1048576) (hd2 : 1 ≤ d2 ∧ d2 ≤ 1048576)
    (hX : -2305843009213693952 ≤ X ∧ X ≤ 2305843009213693952) (hY : -2305843009213693952 ≤ Y ∧ Y ≤ 2305843009213693952)
    (hA : 0 ≤ A ∧ A ≤ 1099511627776) (hB : 0 ≤ B ∧ B ≤ 1099511627776) (hE : 1 ≤ E ∧ E ≤ 1099511627776) (hQ : 0 ≤ Q ∧ Q ≤ 2199023255552)
    (eA : R * d2 = A) (eB : S * d1 = B) (eE : d1 * d2 = E) (eQ : (A + B) / E = Q) (eL : (A + B) % E = L)
    (C1 : Pure Try.prog 54 #[.agg #[.int .i64 n1, .int .i64 d1]] (.bool true))
    (C2 : Pure Try.prog 54 #[.agg #[.int .i64 n2, .int .i64 d2]] (.bool true))
    (L1 : Hid (∀ w, Calls Try.prog 72 #[.int .i64 n1, .int .i64 d1] w fun e w' => e = .returned (.int .i64 X) ∧ w = w'))
    (L2 : Hid (∀ w, Calls Try.prog 72 #[.int .i64 n2, .int .i64 d2] w fun e w' => e = .returned (.int .i64 Y) ∧ w = w'))
    (P1 : Hid (∀ w, Calls Try.prog 52 #[.int .i64 n1, .int .i64 d1] w fun e w' => e = .returned (.int .i64 R) ∧ w = w'))
    (P2 : Hid (∀ w, Calls Try.prog 52 #[.int .i64 n2, .int .i64 d2] w fun e w' => e = .returned (.int .i64 S) ∧ w = w'))
    (M : Hid (Pure Try.prog 71 #[.int .i64 (X + Y + Q), .int .i64 L, .int .i64 E] (.tuple #[.agg #[.int .i64 x, .int .i64 y], .bool s])))
    (r : Int × Int × Int) (hr : Hid (s = true ∧ r = (x, y, 0) ∨ s = false ∧ r = (0, 0, 10))) :
    Calls Try.prog 33 #[.agg #[.int .i64 n1, .int .i64 d1], .agg #[.int .i64 n2, .int .i64 d2]] w (Gives w (rat3 r)) := by
  obtain ⟨a1, a2⟩ := hX
  obtain ⟨a3, a4⟩ := hY
  obtain ⟨a5, a6⟩ := hA
  obtain ⟨a7, a8⟩ := hB
  obtain ⟨a9, a10⟩ := hE
  obtain ⟨a11, a12⟩ := hQ
  obtain ⟨a13, a14⟩ := hd1
  obtain ⟨a15, a16⟩ := hd2
  have hE0 : ¬ E = 0 := by omega
  have q1 : 0 ≤ A + B := by omega
  have tQ : (A + B).tdiv E = Q := by rw [Int.tdiv_eq_ediv_of_nonneg q1]; exact eQ
  have tL : (A + B).tmod E = L := by rw [Int.tmod_eq_emod_of_nonneg q1]; exact eL
  go_enter Try.func33, Try.ntmps33
  go_wp2_with (fail)
  refine (C1 _).mono ?_; rintro e w' ⟨rfl, p1, rfl⟩
  go_wp2_with (fail)
  refine (C2 _).mono ?_; rintro e w' ⟨rfl, p2, rfl⟩
  go_wp2_with (fail)
  refine wp_region_wov (by kernel_rfl) (by kernel_rfl) ?_
  repeat (go_big_quiet_step (first
    | (go_at_call_of 52 (Value.int IntKind.i64 n1); (first | exact ((Pure.of_same (fun w => P1.out w))).at _ _ | exact ((Pure.of_same (fun w => P1.out w))).at2 _ _ _ | exact ((Pure.of_same (fun w => P1.out w))).at3 _ _ _ _ | exact ((Pure.of_same (fun w => P1.out w))).at4 _ _ _ _ _ | exact ((Pure.of_same (fun w => P1.out w))).at5 _ _ _ _ _ _ | exact ((Pure.of_same (fun w => P1.out w))).at6 _ _ _ _ _ _ _))
    | (go_at_call_of 52 (Value.int IntKind.i64 n2); (first | exact ((Pure.of_same (fun w => P2.out w))).at _ _ | exact ((Pure.of_same (fun w => P2.out w))).at2 _ _ _ | exact ((Pure.of_same (fun w => P2.out w))).at3 _ _ _ _ | exact ((Pure.of_same (fun w => P2.out w))).at4 _ _ _ _ _ | exact ((Pure.of_same (fun w => P2.out w))).at5 _ _ _ _ _ _ | exact ((Pure.of_same (fun w => P2.out w))).at6 _ _ _ _ _ _ _))))
  refine wpQuiet_nil ?_
  rintro _ ⟨pq, rfl⟩
  go_wp2_with (fail)
  refine wp_world (fun W => Below w.heap.size w W ∧ w.heap.size + 2 < W.heap.size ∧ W.cell? ⟨w.heap.size, 0, none⟩ = some (.int .i64 n1) ∧ W.cell? ⟨w.heap.size, 1, none⟩ = some (.int .i64 d1) ∧ W.cell? ⟨w.heap.size + 1, 0, none⟩ = some (.int .i64 n2) ∧ W.cell? ⟨w.heap.size + 1, 1, none⟩ = some (.int .i64 d2) ∧ W.cell? ⟨w.heap.size + 1 + 1, 0, none⟩ = some (.int .i64 0) ∧ W.cell? ⟨w.heap.size + 1 + 1, 1, none⟩ = some (.int .i64 0) ∧ W.frozen? ⟨w.heap.size + 1 + 1, 0, none⟩ = false ∧ W.frozen? ⟨w.heap.size + 1 + 1, 1, none⟩ = false) ⟨by (repeat' (first | (with_reducible assumption) | (with_reducible exact Below.refl _ _) | (with_reducible refine below_wov ?_ ?_ _) | (with_reducible refine below_drewN ?_ _) | (with_reducible refine Below.drew ?_) | (with_reducible refine Below.alloc ?_ ?_ _) | (with_reducible refine Below.setCell ?_ ?_ _) | (with_reducible exact Nat.le_refl _) | omega | (simp only [World.size_alloc, World.size_setCell, World.size_drew, Wov_size, World.heap_drewN]; omega))), by (first | omega | ((simp only [World.size_alloc, World.size_setCell, World.size_drew, Wov_size, World.heap_drewN, Array.size_append]) <;> omega)), by ((repeat (first | (with_reducible refine Eq.trans (World.cell?_drewN _ _ _) ?_) | (with_reducible refine Eq.trans (World.cell?_drew _ _) ?_) | (with_reducible refine Eq.trans (World.cell?_alloc_past _ _ _ ?hsz) ?_; case hsz => (first | omega | ((simp only [World.size_alloc, World.size_setCell, World.size_drew, Wov_size, World.heap_drewN, Array.size_append]) <;> omega))) | (with_reducible refine Eq.trans (Wov_cell_past _ _ _ _ ?hsz) ?_; case hsz => (first | omega | ((simp only [World.size_alloc, World.size_setCell, World.size_drew, Wov_size, World.heap_drewN, Array.size_append]) <;> omega))) | (with_reducible refine Eq.trans (World.cell?_alloc_at _ _ _ _ ?hsz) ?_; case hsz => (first | omega | ((simp only [World.size_alloc, World.size_setCell, World.size_drew, Wov_size, World.heap_drewN, Array.size_append]) <;> omega))))) <;> first | rfl | assumption | (simp; done)), by ((repeat (first | (with_reducible refine Eq.trans (World.cell?_drewN _ _ _) ?_) | (with_reducible refine Eq.trans (World.cell?_drew _ _) ?_) | (with_reducible refine Eq.trans (World.cell?_alloc_past _ _ _ ?hsz) ?_; case hsz => (first | omega | ((simp only [World.size_alloc, World.size_setCell, World.size_drew, Wov_size, World.heap_drewN, Array.size_append]) <;> omega))) | (with_reducible refine Eq.trans (Wov_cell_past _ _ _ _ ?hsz) ?_; case hsz => (first | omega | ((simp only [World.size_alloc, World.size_setCell, World.size_drew, Wov_size, World.heap_drewN, Array.size_append]) <;> omega))) | (with_reducible refine Eq.trans (World.cell?_alloc_at _ _ _ _ ?hsz) ?_; case hsz => (first | omega | ((simp only [World.size_alloc, World.size_setCell, World.size_drew, Wov_size, World.heap_drewN, Array.size_append]) <;> omega))))) <;> first | rfl | assumption | (simp; done)), by ((repeat (first | (with_reducible refine Eq.trans (World.cell?_drewN _ _ _) ?_) | (with_reducible refine Eq.trans (World.cell?_drew _ _) ?_) | (with_reducible refine Eq.trans (World.cell?_alloc_past _ _ _ ?hsz) ?_; case hsz => (first | omega | ((simp only [World.size_alloc, World.size_setCell, World.size_drew, Wov_size, World.heap_drewN, Array.size_append]) <;> omega))) | (with_reducible refine Eq.trans (Wov_cell_past _ _ _ _ ?hsz) ?_; case hsz => (first | omega | ((simp only [World.size_alloc, World.size_setCell, World.size_drew, Wov_size, World.heap_drewN, Array.size_append]) <;> omega))) | (with_reducible refine Eq.trans (World.cell?_alloc_at _ _ _ _ ?hsz) ?_; case hsz => (first | omega | ((simp only [World.size_alloc, World.size_setCell, World.size_drew, Wov_size, World.heap_drewN, Array.size_append]) <;> omega))))) <;> first | rfl | assumption | (simp; done)), by ((repeat (first | (with_reducible refine Eq.trans (World.cell?_drewN _ _ _) ?_) | (with_reducible refine Eq.trans (World.cell?_drew _ _) ?_) | (with_reducible refine Eq.trans (World.cell?_alloc_past _ _ _ ?hsz) ?_; case hsz => (first | omega | ((simp only [World.size_alloc, World.size_setCell, World.size_drew, Wov_size, World.heap_drewN, Array.size_append]) <;> omega))) | (with_reducible refine Eq.trans (Wov_cell_past _ _ _ _ ?hsz) ?_; case hsz => (first | omega | ((simp only [World.size_alloc, World.size_setCell, World.size_drew, Wov_size, World.heap_drewN, Array.size_append]) <;> omega))) | (with_reducible refine Eq.trans (World.cell?_alloc_at _ _ _ _ ?hsz) ?_; case hsz => (first | omega | ((simp only [World.size_alloc, World.size_setCell, World.size_drew, Wov_size, World.heap_drewN, Array.size_append]) <;> omega))))) <;> first | rfl | assumption | (simp; done)), by ((repeat (first | (with_reducible refine Eq.trans (World.cell?_drewN _ _ _) ?_) | (with_reducible refine Eq.trans (World.cell?_drew _ _) ?_) | (with_reducible refine Eq.trans (World.cell?_alloc_past _ _ _ ?hsz) ?_; case hsz => (first | omega | ((simp only [World.size_alloc, World.size_setCell, World.size_drew, Wov_size, World.heap_drewN, Array.size_append]) <;> omega))) | (with_reducible refine Eq.trans (Wov_cell_past _ _ _ _ ?hsz) ?_; case hsz => (first | omega | ((simp only [World.size_alloc, World.size_setCell, World.size_drew, Wov_size, World.heap_drewN, Array.size_append]) <;> omega))) | (with_reducible refine Eq.trans (World.cell?_alloc_at _ _ _ _ ?hsz) ?_; case hsz => (first | omega | ((simp only [World.size_alloc, World.size_setCell, World.size_drew, Wov_size, World.heap_drewN, Array.size_append]) <;> omega))))) <;> first | rfl | assumption | (simp; done)), by ((repeat (first | (with_reducible refine Eq.trans (World.cell?_drewN _ _ _) ?_) | (with_reducible refine Eq.trans (World.cell?_drew _ _) ?_) | (with_reducible refine Eq.trans (World.cell?_alloc_past _ _ _ ?hsz) ?_; case hsz => (first | omega | ((simp only [World.size_alloc, World.size_setCell, World.size_drew, Wov_size, World.heap_drewN, Array.size_append]) <;> omega))) | (with_reducible refine Eq.trans (Wov_cell_past _ _ _ _ ?hsz) ?_; case hsz => (first | omega | ((simp only [World.size_alloc, World.size_setCell, World.size_drew, Wov_size, World.heap_drewN, Array.size_append]) <;> omega))) | (with_reducible refine Eq.trans (World.cell?_alloc_at _ _ _ _ ?hsz) ?_; case hsz => (first | omega | ((simp only [World.size_alloc, World.size_setCell, World.size_drew, Wov_size, World.heap_drewN, Array.size_append]) <;> omega))))) <;> first | rfl | assumption | (simp; done)), by simp [go_sem], by simp [go_sem]⟩ ?_
  rintro W ⟨hB, hsz, f1, f2, f3, f4, f5, f6, f7, f8⟩
  clear C1 C2 P1 P2 eA eB
  have M2 : Hid (∀ w, Calls Try.prog 71 #[.int .i64 (X + Y + Q), .int .i64 L, .int .i64 E] w (Gives w (.tuple #[.agg #[.int .i64 x, .int .i64 y], .bool s]))) := M
  clear M
  have u1 : IntKind.i64.wrap (X + Y) = X + Y := IntWalk.i64_in _ (by omega)
  have u2 : IntKind.i64.wrap (X + Y + Q) = X + Y + Q := IntWalk.i64_in _ (by omega)
  have u3 : IntKind.i64.wrap Q = Q := IntWalk.i64_in _ (by omega)
  go_region_held3 (fun w' => w'.cell? ⟨w.heap.size, 0, none⟩ = some (.int .i64 n1) ∧ w'.cell? ⟨w.heap.size, 1, none⟩ = some (.int .i64 d1) ∧ w'.cell? ⟨w.heap.size + 1, 0, none⟩ = some (.int .i64 n2) ∧ w'.cell? ⟨w.heap.size + 1, 1, none⟩ = some (.int .i64 d2))
    ((simp [go_sem, *]))
    (first
    | (go_at_call_of 72 (Value.int IntKind.i64 n1); refine (L1.out _).mono ?_; rintro e w' ⟨rfl, rfl⟩)
    | (go_at_call_of 72 (Value.int IntKind.i64 n2); refine (L2.out _).mono ?_; rintro e w' ⟨rfl, rfl⟩)
    | (go_at_call 71; ((with_reducible refine (M2.out _).mono ?_); rintro e w' ⟨rfl, p3, rfl⟩)))
  all_goals
    rcases hr.out with ⟨rfl, rfl⟩ | ⟨rfl, rfl⟩
    · go_wp2
      refine bodyPost_ret (by simp [results, Try.results33, go_sem, f5, f6]; try rfl) rfl ?_
      exact gives_rat rfl (by (repeat' (first | (with_reducible assumption) | (with_reducible exact Below.refl _ _) | (with_reducible refine below_wov ?_ ?_ _) | (with_reducible refine below_drewN ?_ _) | (with_reducible refine Below.drew ?_) | (with_reducible refine Below.alloc ?_ ?_ _) | (with_reducible refine Below.setCell ?_ ?_ _) | (with_reducible exact Nat.le_refl _) | omega | (simp only [World.size_alloc, World.size_setCell, World.size_drew, Wov_size, World.heap_drewN]; omega))))
    · go_wp2
      refine bodyPost_ret (by simp [results, Try.results33, go_sem, f5, f6]; try rfl) rfl ?_
      exact gives_rat rfl (by (repeat' (first | (with_reducible assumption) | (with_reducible exact Below.refl _ _) | (with_reducible refine below_wov ?_ ?_ _) | (with_reducible refine below_drewN ?_ _) | (with_reducible refine Below.drew ?_) | (with_reducible refine Below.alloc ?_ ?_ _) | (with_reducible refine Below.setCell ?_ ?_ _) | (with_reducible exact Nat.le_refl _) | omega | (simp only [World.size_alloc, World.size_setCell, World.size_drew, Wov_size, World.heap_drewN]; omega))))

end Go.Proofs.Ytacihahipjlnpaa
