/- lex's cutter: contract of (*cutter).end where a row ends well. No condition but on sizes, and what some package variables hold. -/
import Derived.Test.YtccbhblklhmcpaaGreatDoorQ13
import Derived.Deep.RegionHeld3
namespace Go.Proofs.YtccbhblklhmcpaaGreatDoor
set_option linter.unusedSimpArgs false
set_option linter.unusedVariables false
open Go Go.RowKit Go.Shelf
attribute [local go_sem] Nat.add_assoc Nat.add_lt_add_iff_left lit_lt_add

theorem grown_at {X V : World} {r : Option Nat} (h : X.grownBy V r) {A : Nat} (hA : A < X.heap.size) (hr : r ≠ some A) (o : Nat) : V.cell? ⟨A, o, none⟩ = X.cell? ⟨A, o, none⟩ ∧ V.frozen? ⟨A, o, none⟩ = X.frozen? ⟨A, o, none⟩ := by
  have e : V.heap[A]? = X.heap[A]? := h.block A hA (fun e => hr e.symm)
  exact ⟨World.cell?_of_block e, World.frozen?_of_block e⟩
theorem grown_old {X X' V : World} {r : Option Nat} (h : X'.grownBy V r) (hb : Below X.heap.size X X') {A : Nat} (hA : A < X.heap.size) (hr : r ≠ some A) (o : Nat) : V.cell? ⟨A, o, none⟩ = X.cell? ⟨A, o, none⟩ ∧ V.frozen? ⟨A, o, none⟩ = X.frozen? ⟨A, o, none⟩ := by
  obtain ⟨h1, h2⟩ := grown_at h (Nat.lt_of_lt_of_le hA hb.size) hr o
  exact ⟨h1.trans (hb.cell (p := ⟨A, o, none⟩) hA), h2.trans (hb.frozen (p := ⟨A, o, none⟩) hA)⟩
theorem RowK.setCell {α : Type} {D : EK α} {W : World} {n : Nat} {v : Value} {xs : List α} (h : RowK D n W v xs) {a : Addr} (ha : a.block < n) (u : Value) : RowK D n (W.setCell a u) v xs := by
  obtain ⟨h0, h | ⟨g, cap, cur, h1, h2, h3, h4⟩⟩ := h
  · exact ⟨h0, .inl h⟩
  · refine ⟨h0, .inr ⟨g, cap, cur, h1, h2, ?_, h4⟩⟩
    rw [← h3]
    simp only [World.setCell, Array.getElem?_modify]
    rw [if_neg (by omega)]
theorem CutI.put {nb : Nat} {w1 : World} {B : Nat} {T : ByteArray} {f : Int} {v v1 : Value} {l' : List Tk} (hlt : B < w1.heap.size) (hln : B < nb) (hnz : nb ≤ w1.heap.size) (g0 : w1.cell? ⟨B, 0, none⟩ = some (.string T)) (g1 : w1.cell? ⟨B, 1, none⟩ = some v) (g2 : w1.cell? ⟨B, 2, none⟩ = some (.int .i64 f))
    (f0 : w1.frozen? ⟨B, 0, none⟩ = false) (f1 : w1.frozen? ⟨B, 1, none⟩ = false) (f2 : w1.frozen? ⟨B, 2, none⟩ = false) (row : RowK tkD nb w1 v1 l') : CutI nb (w1.setCell ⟨B, 1, none⟩ v1) B T f v1 l' := by
  refine ⟨by rw [World.size_setCell]; exact hlt, hln, by rw [World.size_setCell]; exact hnz, ?_, World.cell?_setCell_same _ _ _ g1, ?_, ?_, ?_, ?_, row.setCell hln _⟩
  · exact (World.cell?_setCell_other _ _ _ _ (by simp)).trans g0
  · exact (World.cell?_setCell_other _ _ _ _ (by simp)).trans g2
  · rw [World.frozen?_setCell]; exact f0
  · rw [World.frozen?_setCell]; exact f1
  · rw [World.frozen?_setCell]; exact f2
theorem CutI.from {nb : Nat} {w1 : World} {B : Nat} {T : ByteArray} {f g : Int} {v : Value} {l' : List Tk} (h : CutI nb w1 B T f v l') : CutI nb (w1.setCell ⟨B, 2, none⟩ (.int .i64 g)) B T g v l' := by
  refine ⟨by rw [World.size_setCell]; exact h.lt, h.ln, by rw [World.size_setCell]; exact h.nz, ?_, ?_, World.cell?_setCell_same _ _ _ h.c2, ?_, ?_, ?_, h.row.setCell h.ln _⟩
  · exact (World.cell?_setCell_other _ _ _ _ (by simp)).trans h.c0
  · exact (World.cell?_setCell_other _ _ _ _ (by simp)).trans h.c1
  · rw [World.frozen?_setCell]; exact h.z0
  · rw [World.frozen?_setCell]; exact h.z1
  · rw [World.frozen?_setCell]; exact h.z2
set_option maxRecDepth 10000 in
set_option maxHeartbeats 4000000 in
/-- A row that may be. -/
theorem end_ok (nb : Nat) (W : World) (B : Nat) (S : List UInt8) (v : Value) (l : List Tk) (k i : Nat) (hI : CutI nb W B (bs S) k v l) (hki : k < i) (hiS : i ≤ S.length) (hS : S.length ≤ 140737488355328) (hL : Laid W) (hl : l.length ≤ 10000) (he : (rowK ((S.drop k).take (i - k))).2 = 0) :
    Calls Tryz.prog 66 #[.pointer (some ⟨B, 0, none⟩), .int .i64 i] W (fun e W' => e = .returned (.int .i64 0) ∧ Turn nb B W W' ∧ ∃ v', CutI nb W' B (bs S) (-1) v' (l ++ [⟨(rowK ((S.drop k).take (i - k))).1, (S.drop k).take (i - k), k⟩])) := by
  have hlt := hI.lt
  have hln := hI.ln
  have hnz := hI.nz
  have c0 := hI.c0
  have c1 := hI.c1
  have c2 := hI.c2
  have z0 := hI.z0
  have z1 := hI.z1
  have z2 := hI.z2
  obtain ⟨cur, hcur⟩ : ∃ cur, cur = (S.drop k).take (i - k) := ⟨_, rfl⟩
  have hne : cur ≠ [] := by
    rw [hcur]; intro h
    have := congrArg List.length h
    rw [List.length_take, List.length_drop] at this
    simp at this; omega
  have hlc : cur.length ≤ 140737488355328 := by rw [hcur, List.length_take, List.length_drop]; omega
  have eX : (bs S).extract k i = bs cur := by rw [bs_ext, hcur]
  have hsz := bs_size S
  rw [← hcur] at he ⊢
  have HROW := Lib.hid hI.row
  obtain ⟨K, hK⟩ : ∃ K, K = (rowK cur).1 := ⟨_, rfl⟩
  have RW : Hid (∀ w', Below W.heap.size W w' → Calls Tryz.prog 85 #[.string (bs cur)] w' (Gives w' (.tuple #[.agg #[.int .u8 K, .string (bs cur), .int .i64 0], .int .i64 0]))) := fun w' hb => by
    have := row_any cur hne hlc w' (hL.below hb)
    unfold rowV tkV at this
    rw [if_pos he, he, ← hK] at this
    exact this
  rw [← hK]
  clear hK
  obtain ⟨T, hT⟩ : ∃ T, T = bs S := ⟨_, rfl⟩
  have HT := Lib.hid hT
  rw [← hT] at eX hsz c0 ⊢
  obtain ⟨C, hC⟩ : ∃ C, C = bs cur := ⟨_, rfl⟩
  have HC := Lib.hid hC
  rw [← hC] at eX RW
  obtain ⟨n, hn⟩ : ∃ n, n = S.length := ⟨_, rfl⟩
  rw [← hn] at hsz hiS
  have k0 : (0 : Int) ≤ (k : Int) := by omega
  have k1 : (k : Int) ≤ (i : Int) := by omega
  have k2 : (i : Int) ≤ (n : Int) := by omega
  have k3 : k ≤ i := by omega
  clear hI he hT hC hn hS hL hcur hne hlc
  go_enter Tryz.func66, Tryz.ntmps66
  go_wp2_with (fail)
  go_region_held3 (fun w' => w'.cell? ⟨B, 0, none⟩ = some (.string T) ∧ w'.cell? ⟨B, 2, none⟩ = some (.int .i64 (k : Int)))
    ((simp [go_sem, *]))
    ((go_at_call 85; (refine (RW.out _ (by (repeat' (first | (with_reducible assumption) | (with_reducible exact Below.refl _ _) | (with_reducible refine below_wov ?_ ?_ _) | (with_reducible refine below_drewN ?_ _) | (with_reducible refine Below.drew ?_) | (with_reducible refine Below.alloc ?_ ?_ _) | (with_reducible refine Below.setCell ?_ ?_ _) | (with_reducible exact Nat.le_refl _) | omega | (simp only [World.size_alloc, World.size_setCell, World.size_drew, Wov_size, World.heap_drewN]; omega))))).mono ?_); rintro e w' ⟨rfl, qa, rfl⟩))
  all_goals
    go_wp2_with (fail)
    first
    | (obtain ⟨A, hA⟩ : ∃ A, A = W.heap.size + qa.bl.size := ⟨_, rfl⟩
       have hAW : W.heap.size ≤ A := by omega
       rw [← hA]
       refine wp_world (fun X => Below W.heap.size W X ∧ A < X.heap.size ∧ X.cell? ⟨A, 0, none⟩ = some (.int .u8 (K : Int)) ∧ X.cell? ⟨A, 1, none⟩ = some (.string C) ∧ X.cell? ⟨A, 2, none⟩ = some (.int .i64 (k : Int))) ⟨by (repeat' (first | (with_reducible assumption) | (with_reducible exact Below.refl _ _) | (with_reducible refine below_wov ?_ ?_ _) | (with_reducible refine below_drewN ?_ _) | (with_reducible refine Below.drew ?_) | (with_reducible refine Below.alloc ?_ ?_ _) | (with_reducible refine Below.setCell ?_ ?_ _) | (with_reducible exact Nat.le_refl _) | omega | (simp only [World.size_alloc, World.size_setCell, World.size_drew, Wov_size, World.heap_drewN]; omega))), by rw [hA]; simp [go_sem], by rw [hA]; simp [go_sem], by rw [hA]; simp [go_sem], by rw [hA]; simp [go_sem]⟩ ?_
       clear hA)
    | (obtain ⟨A, hA⟩ : ∃ A, A = W.heap.size := ⟨_, rfl⟩
       have hAW : W.heap.size ≤ A := by omega
       rw [← hA]
       refine wp_world (fun X => Below W.heap.size W X ∧ A < X.heap.size ∧ X.cell? ⟨A, 0, none⟩ = some (.int .u8 (K : Int)) ∧ X.cell? ⟨A, 1, none⟩ = some (.string C) ∧ X.cell? ⟨A, 2, none⟩ = some (.int .i64 (k : Int))) ⟨by rw [hA]; (repeat' (first | (with_reducible assumption) | (with_reducible exact Below.refl _ _) | (with_reducible refine below_wov ?_ ?_ _) | (with_reducible refine below_drewN ?_ _) | (with_reducible refine Below.drew ?_) | (with_reducible refine Below.alloc ?_ ?_ _) | (with_reducible refine Below.setCell ?_ ?_ _) | (with_reducible exact Nat.le_refl _) | omega | (simp only [World.size_alloc, World.size_setCell, World.size_drew, Wov_size, World.heap_drewN]; omega))), by rw [hA]; simp [go_sem], by rw [hA]; simp [go_sem], by rw [hA]; simp [go_sem], by rw [hA]; simp [go_sem]⟩ ?_
       clear hA)
    clear RW
    rintro X ⟨hX, hAX, a0, a1, a2⟩
    have hsX := hX.size
    have hBX : B < X.heap.size := by omega
    have b1 := (hX.cell (p := ⟨B, 1, none⟩) hlt).trans c1
    have b2 := (hX.cell (p := ⟨B, 2, none⟩) hlt).trans c2
    have y1 := (hX.frozen (p := ⟨B, 1, none⟩) hlt).trans z1
    have y2 := (hX.frozen (p := ⟨B, 2, none⟩) hlt).trans z2
    have x0 := (hX.cell (p := ⟨B, 0, none⟩) hlt).trans c0
    have y0 := (hX.frozen (p := ⟨B, 0, none⟩) hlt).trans z0
    clear c0 c1 c2 z0 z1 z2
    go_region_law (refine step_appK tkD_ok _ nb rfl (.tmp 38) (.tmp 40) rfl rfl v l [⟨K, cur, k⟩] rfl ((HROW.out.below hX).below (by (repeat' (first | (with_reducible assumption) | (with_reducible exact Below.refl _ _) | (with_reducible refine below_wov ?_ ?_ _) | (with_reducible refine below_drewN ?_ _) | (with_reducible refine Below.drew ?_) | (with_reducible refine Below.alloc ?_ ?_ _) | (with_reducible refine Below.setCell ?_ ?_ _) | (with_reducible exact Nat.le_refl _) | omega | (simp only [World.size_alloc, World.size_setCell, World.size_drew, Wov_size, World.heap_drewN]; omega))))) (some ⟨_, 0, none⟩) 1 rfl (by intro h; cases h) ?hR (by simp; omega) (by (first | omega | ((simp only [World.size_alloc, World.size_setCell, World.size_drew, Wov_size, World.heap_drewN, Array.size_append]) <;> omega))) ?_; (case hR => (refine SlK.one (by (first | omega | ((simp only [World.size_alloc, World.size_setCell, World.size_drew, Wov_size, World.heap_drewN, Array.size_append]) <;> omega))) (fun j u hu => ?_); have hj : j < 3 := (by have := (List.getElem?_eq_some_iff.1 hu).1; exact this); rcases (show j = 0 ∨ j = 1 ∨ j = 2 by omega) with rfl | rfl | rfl <;> (injection hu with hu; subst hu; simp [go_sem, HC.out]))); intro v1 w1 ho1 hg1; obtain ⟨p1, cp1, rfl, _, _, _⟩ := RowK.sl tkD_ok ho1; have hne : v.ownBlock ≠ some B := (fun e => by have := (HROW.out.own_lt B e).1; omega); have g0 := (grown_old hg1 (X := X) (by (repeat' (first | (with_reducible assumption) | (with_reducible exact Below.refl _ _) | (with_reducible refine below_wov ?_ ?_ _) | (with_reducible refine below_drewN ?_ _) | (with_reducible refine Below.drew ?_) | (with_reducible refine Below.alloc ?_ ?_ _) | (with_reducible refine Below.setCell ?_ ?_ _) | (with_reducible exact Nat.le_refl _) | omega | (simp only [World.size_alloc, World.size_setCell, World.size_drew, Wov_size, World.heap_drewN]; omega)))) hBX hne 0).1.trans x0; have g1 := (grown_old hg1 (X := X) (by (repeat' (first | (with_reducible assumption) | (with_reducible exact Below.refl _ _) | (with_reducible refine below_wov ?_ ?_ _) | (with_reducible refine below_drewN ?_ _) | (with_reducible refine Below.drew ?_) | (with_reducible refine Below.alloc ?_ ?_ _) | (with_reducible refine Below.setCell ?_ ?_ _) | (with_reducible exact Nat.le_refl _) | omega | (simp only [World.size_alloc, World.size_setCell, World.size_drew, Wov_size, World.heap_drewN]; omega)))) hBX hne 1).1.trans b1; have g2 := (grown_old hg1 (X := X) (by (repeat' (first | (with_reducible assumption) | (with_reducible exact Below.refl _ _) | (with_reducible refine below_wov ?_ ?_ _) | (with_reducible refine below_drewN ?_ _) | (with_reducible refine Below.drew ?_) | (with_reducible refine Below.alloc ?_ ?_ _) | (with_reducible refine Below.setCell ?_ ?_ _) | (with_reducible exact Nat.le_refl _) | omega | (simp only [World.size_alloc, World.size_setCell, World.size_drew, Wov_size, World.heap_drewN]; omega)))) hBX hne 2).1.trans b2; have f0 := (grown_old hg1 (X := X) (by (repeat' (first | (with_reducible assumption) | (with_reducible exact Below.refl _ _) | (with_reducible refine below_wov ?_ ?_ _) | (with_reducible refine below_drewN ?_ _) | (with_reducible refine Below.drew ?_) | (with_reducible refine Below.alloc ?_ ?_ _) | (with_reducible refine Below.setCell ?_ ?_ _) | (with_reducible exact Nat.le_refl _) | omega | (simp only [World.size_alloc, World.size_setCell, World.size_drew, Wov_size, World.heap_drewN]; omega)))) hBX hne 0).2.trans y0; have f1 := (grown_old hg1 (X := X) (by (repeat' (first | (with_reducible assumption) | (with_reducible exact Below.refl _ _) | (with_reducible refine below_wov ?_ ?_ _) | (with_reducible refine below_drewN ?_ _) | (with_reducible refine Below.drew ?_) | (with_reducible refine Below.alloc ?_ ?_ _) | (with_reducible refine Below.setCell ?_ ?_ _) | (with_reducible exact Nat.le_refl _) | omega | (simp only [World.size_alloc, World.size_setCell, World.size_drew, Wov_size, World.heap_drewN]; omega)))) hBX hne 1).2.trans y1; have f2 := (grown_old hg1 (X := X) (by (repeat' (first | (with_reducible assumption) | (with_reducible exact Below.refl _ _) | (with_reducible refine below_wov ?_ ?_ _) | (with_reducible refine below_drewN ?_ _) | (with_reducible refine Below.drew ?_) | (with_reducible refine Below.alloc ?_ ?_ _) | (with_reducible refine Below.setCell ?_ ?_ _) | (with_reducible exact Nat.le_refl _) | omega | (simp only [World.size_alloc, World.size_setCell, World.size_drew, Wov_size, World.heap_drewN]; omega)))) hBX hne 2).2.trans y2; have hb1 : Below nb X w1 := (by refine Below.trans ?_ (RowK.grown ((HROW.out.below hX).below (by (repeat' (first | (with_reducible assumption) | (with_reducible exact Below.refl _ _) | (with_reducible refine below_wov ?_ ?_ _) | (with_reducible refine below_drewN ?_ _) | (with_reducible refine Below.drew ?_) | (with_reducible refine Below.alloc ?_ ?_ _) | (with_reducible refine Below.setCell ?_ ?_ _) | (with_reducible exact Nat.le_refl _) | omega | (simp only [World.size_alloc, World.size_setCell, World.size_drew, Wov_size, World.heap_drewN]; omega))))) (Below.refl _ _) hg1 (by (first | omega | ((simp only [World.size_alloc, World.size_setCell, World.size_drew, Wov_size, World.heap_drewN, Array.size_append]) <;> omega)))); (repeat' (first | (with_reducible assumption) | (with_reducible exact Below.refl _ _) | (with_reducible refine below_wov ?_ ?_ _) | (with_reducible refine below_drewN ?_ _) | (with_reducible refine Below.drew ?_) | (with_reducible refine Below.alloc ?_ ?_ _) | (with_reducible refine Below.setCell ?_ ?_ _) | (with_reducible exact Nat.le_refl _) | omega | (simp only [World.size_alloc, World.size_setCell, World.size_drew, Wov_size, World.heap_drewN]; omega)))); have hs1 := hb1.size; have HO := Lib.hid ho1; clear ho1 hg1)
  all_goals
    go_wp2_with (fail)
    go_ret
    have hBW : Turn nb B W w1 := Turn.of ((hX.mono hnz).trans hb1)
    have ho2 := HO.out
    simp only [List.length_append, List.length_cons, List.length_nil, Nat.zero_add] at ho2
    exact ⟨rfl, (hBW.set (.inl rfl) _).set (.inl rfl) _, _, (CutI.put (by omega) hln (by omega) g0 g1 g2 f0 f1 f2 ho2).from⟩
#print axioms end_ok
end Go.Proofs.YtccbhblklhmcpaaGreatDoor
