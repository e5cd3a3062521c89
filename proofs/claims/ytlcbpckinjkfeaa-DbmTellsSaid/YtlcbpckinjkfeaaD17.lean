/- Contract of the document's Twin; plain law: of lesser bounds the closed one is lesser. No condition but on the count of bounds. -/
import Derived.Test.YtlcbpckinjkfeaaD15
import Derived.Test.YtlcbpckinjkfeaaD16
import Derived.Deep.AppendLies
namespace Go.Proofs.Ytlcbpckinjkfeaa
set_option linter.unusedSimpArgs false
set_option linter.unusedVariables false
open Go Go.RowKit Go.Shelf
attribute [local go_sem] Nat.add_assoc Nat.add_lt_add_iff_left lit_lt_add

set_option maxRecDepth 10000 in
set_option maxHeartbeats 2000000 in
theorem refTwin_pos (n : Int) (B off N cap : Nat) (f : Nat → Int) (w : World) (h0 : 0 < N) (hN : N ≤ 1000000) (hB : B < w.heap.size) (hc : ∀ x, x < N → w.cell? ⟨B, off + x, none⟩ = some (.int .i64 (f x))) :
    Calls Try.prog 28 #[.agg #[.int .i64 n, .slice (some ⟨B, off, none⟩) N cap]] w (twinPost w n N f) := by
  obtain ⟨i0, hi, hz0, hz1, hz2⟩ := info_parts infoB
  have HI := Lib.hid hi
  have HZ := Lib.hid hz0
  have H1 := Lib.hid hz1
  have H2 := Lib.hid hz2
  have A := Lib.hid hc
  clear hi hz0 hz1 hz2 hc
  go_enter Try.func28, Try.ntmps28
  go_wp2_with (fail)
  refine wp_world (fun W => Below w.heap.size w W ∧ w.heap.size + 2 = W.heap.size ∧ W.cell? ⟨w.heap.size, 0, none⟩ = some (.int .i64 n) ∧ W.cell? ⟨w.heap.size, 1, none⟩ = some (.slice (some ⟨B, off, none⟩) N cap) ∧ W.cell? ⟨w.heap.size + 1, 0, none⟩ = some (.int .i64 0) ∧ W.cell? ⟨w.heap.size + 1, 1, none⟩ = some (.slice none 0 0) ∧ W.frozen? ⟨w.heap.size + 1, 0, none⟩ = false ∧ W.frozen? ⟨w.heap.size + 1, 1, none⟩ = false) ⟨by (repeat' (first | (with_reducible assumption) | (with_reducible exact Below.refl _ _) | (with_reducible refine below_wov ?_ ?_ _) | (with_reducible refine below_drewN ?_ _) | (with_reducible refine Below.drew ?_) | (with_reducible refine Below.alloc ?_ ?_ _) | (with_reducible refine Below.setCell ?_ ?_ _) | (with_reducible exact Nat.le_refl _) | omega | (simp only [World.size_alloc, World.size_setCell, World.size_drew, Wov_size, World.heap_drewN]; omega))), by simp, by simp [go_sem], by simp [go_sem], by simp [go_sem], by simp [go_sem], by simp [go_sem], by simp [go_sem]⟩ ?_
  rintro W ⟨hBw, hsz, f1, f2, f3, f4, f5, f6⟩
  have z1 : w.heap.size < W.heap.size := by omega
  have z2 : w.heap.size + 1 < W.heap.size := by omega
  have NW : Hid (∀ j u, (cellsI N f)[j]? = some u → W.cell? ((⟨B, off, none⟩ : Addr).add j) = some u) := fun j u hj => by
    obtain ⟨hjN, rfl⟩ := cellsI_get' hj
    rw [Addr.add_lit]
    exact (hBw.cell (p := ⟨B, off + j, none⟩) hB).trans (A.out j hjN)
  have HZS := Lib.hid hsz
  have KEEP : Hid (∀ w1, W.drew.grownBy w1 (Value.slice none 0 0).ownBlock → (Below W.heap.size W w1 ∧ w1.cell? ⟨w.heap.size, 0, none⟩ = some (.int .i64 n) ∧ w1.cell? ⟨w.heap.size, 1, none⟩ = some (.slice (some ⟨B, off, none⟩) N cap) ∧ w1.cell? ⟨w.heap.size + 1, 0, none⟩ = some (.int .i64 0) ∧ w1.cell? ⟨w.heap.size + 1, 1, none⟩ = some (.slice none 0 0) ∧ w1.frozen? ⟨w.heap.size + 1, 0, none⟩ = false ∧ w1.frozen? ⟨w.heap.size + 1, 1, none⟩ = false)) := fun w1 hg => by
    have hb : Below W.heap.size W w1 := ⟨hg.os, hg.tape, hg.output, hg.size, fun k hk => hg.block k hk (fun e => by simp [Value.ownBlock] at e)⟩
    exact ⟨hb, (hb.cell (p := ⟨w.heap.size, 0, none⟩) z1).trans f1, (hb.cell (p := ⟨w.heap.size, 1, none⟩) z1).trans f2, (hb.cell (p := ⟨w.heap.size + 1, 0, none⟩) z2).trans f3, (hb.cell (p := ⟨w.heap.size + 1, 1, none⟩) z2).trans f4, (hb.frozen (p := ⟨w.heap.size + 1, 0, none⟩) z2).trans f5, (hb.frozen (p := ⟨w.heap.size + 1, 1, none⟩) z2).trans f6⟩
  clear hsz
  go_region_held3 (fun w' => w'.cell? ⟨w.heap.size, 0, none⟩ = some (.int .i64 n) ∧ w'.cell? ⟨w.heap.size, 1, none⟩ = some (.slice (some ⟨B, off, none⟩) N cap))
    ((simp [go_sem, *]))
    ((refine step_append_lies _ (by rfl) _ _ 37 (by rfl) W.heap.size 24 i0 (.int .i64 0) 1 8 Try.underlying37 HI.out HZ.out H1.out H2.out rfl (by decide) (.slice none 0 0) 0 [] (by simp [Act.eval, Act.put]) (World.ownsRow_nil _ _ _ _) ⟨B, off, none⟩ N cap (cellsI N f) (by simp [Act.eval, Act.put]) (by rw [cellsI_len, Nat.mul_one]) (fun j u hj => by simp only [World.cell?_drew]; exact NW.out j u hj) cellsI_one h0 (by unfold maxLen; omega) (by omega) (by simp) W.heap.size (by simp) ?_
      intro g cap2 w1 hown hgrow hat hlt
      obtain ⟨k0, k1, k2, k3, k4, k5, k6⟩ := KEEP.out w1 hgrow
      rw [Nat.zero_add, List.nil_append] at hown
      rw [Nat.zero_add]
      have HO := Lib.hid hown
      clear hown hgrow hat))
  all_goals
    go_wp2
    refine bodyPost_ret (by simp [results, Try.results28, go_sem, k3, k4]; try rfl) rfl ?_
    obtain ⟨B3, c3, e3, hb1, hb2, hH⟩ := holds_of_row h0 HO.out
    simp only [Value.slice.injEq, Option.some.injEq, Addr.mk.injEq, and_true, true_and] at e3
    obtain ⟨rfl, rfl⟩ := e3
    refine ⟨some ⟨g, 0, none⟩, cap2, rfl, .inr ⟨g, cap2, rfl, by have := hBw.size; omega, by simp [World.setCell]; omega, ?_⟩, Wov_of_below ?_⟩
    · exact hH.of_block (((Chg.set w1 (w.heap.size + 1) 0 _).trans (Chg.set _ (w.heap.size + 1) 1 _)).block g hb2 (by have := HZS.out; omega))
    · exact (((hBw.trans (k0.mono (by have := hBw.size; omega))).setCell (p := ⟨w.heap.size + 1, 0, none⟩) (by simp) _).setCell (p := ⟨w.heap.size + 1, 1, none⟩) (by simp) _)

/-- Of a matrix whose bounds are none greater the closed one is none greater. -/
theorem close_mono {n : Nat} {f f' c' : Nat → Int} (hn : n ≤ 4) (hb : ∀ i j, i < n → j < n → bd 288230376151711744 (f (i * n + j))) (hu : Under n (mE n f') (mE n f)) (h : ClosedI n f' c') :
    ∃ c, closeI n f = some c ∧ Under n (mE n c') (mE n c) := by
  obtain ⟨e, he, heu⟩ := closeE_greatest h.closed.1 (under_trans h.closed.2 hu)
  have hi := closeI_is hn hb
  rw [he] at hi
  cases hc : closeI n f with
  | none => rw [hc] at hi; exact hi.elim
  | some c =>
    rw [hc] at hi
    refine ⟨c, rfl, fun i j hi' hj => ?_⟩
    show ele _ (eb (c (i * n + j)))
    rw [hi i j hi' hj]
    exact heu i j hi' hj
end Go.Proofs.Ytlcbpckinjkfeaa
