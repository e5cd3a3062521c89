/- Contracts of dbm.Twin and the document's Twin: a copy in new memory. No condition but on the count of bounds. -/
import Derived.Test.YtlcbpckinjkfeaaD7
import Derived.Deep.RegionHeld3
namespace Go.Proofs.Ytlcbpckinjkfeaa
set_option linter.unusedSimpArgs false
set_option linter.unusedVariables false
open Go Go.RowKit Go.Shelf
attribute [local go_sem] Nat.add_assoc Nat.add_lt_add_iff_left lit_lt_add

/-- A slice of the call's own, or nil. -/
def OwnS (w W : World) (sl : Value) (N : Nat) (f : Nat → Int) : Prop := (N = 0 ∧ sl = .slice none 0 0) ∨ OwnI w W sl N f
/-- A slice that came in: nil, or its elements are numbers. -/
def InS (W : World) (p : Option Addr) (N cap : Nat) (f : Nat → Int) : Prop := (p = none ∧ N = 0 ∧ cap = 0) ∨ (0 < N ∧ ∃ B off, p = some ⟨B, off, none⟩ ∧ B < W.heap.size ∧ ∀ x, x < N → W.cell? ⟨B, off + x, none⟩ = some (.int .i64 (f x)))
theorem InS.slp {W : World} {p : Option Addr} {N cap : Nat} {f : Nat → Int} (h : InS W p N cap f) : SlP W p N f := by
  rcases h with ⟨_, h, _⟩ | ⟨_, h⟩
  · exact .inl h
  · exact .inr h

theorem clone_nil (w : World) :
    Calls Try.prog 94 #[.slice none 0 0] w fun e W => e = .returned (.slice none 0 0) ∧ ∃ p, W = Wov w p := by
  have q22 : ∀ (w : World) (a : Option Addr) (n c n' c' : Nat), (binOp .eql 37 (.slice a n c) (.slice none n' c')).run Try.prog w = .ok (.bool a.isNone) w := fun w a n c n' c' => Lib.run_eql_slice_nil w _ _ a n c n' c' Try.underlying37
  go_enter Try.func94, Try.ntmps94
  go_wp2
  go_ret
  exact ⟨rfl, ⟨#[], w.drawn⟩, (Wov_self w).symm⟩

def clonePost (w : World) (N : Nat) (f : Nat → Int) (e : Ending) (W : World) : Prop := ∃ p cap, e = .returned (.slice p N cap) ∧ OwnS w W (.slice p N cap) N f ∧ ∃ q, W = Wov w q
theorem clone_all (p : Option Addr) (N cap : Nat) (f : Nat → Int) (w : World) (hN : N ≤ 1000000) (hS : InS w p N cap f) :
    Calls Try.prog 94 #[.slice p N cap] w (clonePost w N f) := by
  rcases hS with ⟨rfl, rfl, rfl⟩ | ⟨h0, B, off, rfl, hB, hc⟩
  · refine (clone_nil w).mono ?_
    rintro e W ⟨rfl, hq⟩
    exact ⟨none, 0, rfl, .inl ⟨rfl, rfl⟩, hq⟩
  · refine (clone_any B off N cap f w h0 hN hB hc).mono ?_
    rintro e W ⟨sl, rfl, ho, hq⟩
    have ho' := ho
    obtain ⟨B2, cap2, rfl, _⟩ := ho'
    exact ⟨_, _, rfl, .inr ho, hq⟩

theorem OwnI.later {w w0 W : World} {sl : Value} {N : Nat} {f : Nat → Int} (h : OwnI w W sl N f) (hw : w0.heap.size ≤ w.heap.size) : OwnI w0 W sl N f := by
  obtain ⟨B, cap, h1, h2, h3, h4⟩ := h
  exact ⟨B, cap, h1, by omega, h3, h4⟩
theorem OwnS.later {w w0 W : World} {sl : Value} {N : Nat} {f : Nat → Int} (h : OwnS w W sl N f) (hw : w0.heap.size ≤ w.heap.size) : OwnS w0 W sl N f := h.imp id (fun h => h.later hw)
theorem OwnS.chg {w W W' : World} {sl : Value} {N B : Nat} {f : Nat → Int} (h : OwnS w W sl N f) (hs : B < w.heap.size) (hg : Chg W B W') : OwnS w W' sl N f := by
  rcases h with h | ⟨B2, cap, h1, h2, h3, h4⟩
  · exact .inl h
  · exact .inr ⟨B2, cap, h1, h2, Nat.lt_of_lt_of_le h3 hg.size, h4.of_block (hg.block B2 h3 (by omega))⟩
def twinPost (w : World) (n : Int) (N : Nat) (f : Nat → Int) (e : Ending) (W : World) : Prop := ∃ p cap, e = .returned (.agg #[.int .i64 n, .slice p N cap]) ∧ OwnS w W (.slice p N cap) N f ∧ ∃ q, W = Wov w q

set_option maxRecDepth 10000 in
set_option maxHeartbeats 2000000 in
theorem twin_any (n : Int) (p : Option Addr) (N cap : Nat) (f : Nat → Int) (w : World) (hN : N ≤ 1000000) (hS : InS w p N cap f) :
    Calls Try.prog 33 #[.agg #[.int .i64 n, .slice p N cap]] w (twinPost w n N f) := by
  have C : Hid (∀ w', Below w.heap.size w w' → Calls Try.prog 94 #[.slice p N cap] w' (clonePost w' N f)) := fun w' hb =>
    clone_all p N cap f w' hN (by
      rcases hS with h | ⟨h0, B, off, h1, h2, h3⟩
      · exact .inl h
      · exact .inr ⟨h0, B, off, h1, Nat.lt_of_lt_of_le h2 hb.size, fun x hx => (hb.cell (p := ⟨B, off + x, none⟩) h2).trans (h3 x hx)⟩)
  clear hS
  go_enter Try.func33, Try.ntmps33
  go_wp2_with (fail)
  refine wp_world (fun W => Below w.heap.size w W ∧ w.heap.size + 2 = W.heap.size ∧ W.cell? ⟨w.heap.size, 0, none⟩ = some (.int .i64 n) ∧ W.cell? ⟨w.heap.size, 1, none⟩ = some (.slice p N cap) ∧ (W.cell? ⟨w.heap.size + 1, 0, none⟩).isSome = true ∧ (W.cell? ⟨w.heap.size + 1, 1, none⟩).isSome = true ∧ W.frozen? ⟨w.heap.size + 1, 0, none⟩ = false ∧ W.frozen? ⟨w.heap.size + 1, 1, none⟩ = false) ⟨by (repeat' (first | (with_reducible assumption) | (with_reducible exact Below.refl _ _) | (with_reducible refine below_wov ?_ ?_ _) | (with_reducible refine below_drewN ?_ _) | (with_reducible refine Below.drew ?_) | (with_reducible refine Below.alloc ?_ ?_ _) | (with_reducible refine Below.setCell ?_ ?_ _) | (with_reducible exact Nat.le_refl _) | omega | (simp only [World.size_alloc, World.size_setCell, World.size_drew, Wov_size, World.heap_drewN]; omega))), by simp, by simp [go_sem], by simp [go_sem], by simp [go_sem], by simp [go_sem], by simp [go_sem], by simp [go_sem]⟩ ?_
  rintro W ⟨hB, hsz, f1, f2, f3, f4, f5, f6⟩
  obtain ⟨x3, f3'⟩ := Option.isSome_iff_exists.1 f3
  obtain ⟨x4, f4'⟩ := Option.isSome_iff_exists.1 f4
  have z1 : w.heap.size < W.heap.size := by omega
  have z2 : w.heap.size + 1 < W.heap.size := by omega
  have HZ := Lib.hid hsz
  clear f3 f4 hsz
  go_region_held3 (fun w' => w'.cell? ⟨w.heap.size, 0, none⟩ = some (.int .i64 n) ∧ w'.cell? ⟨w.heap.size, 1, none⟩ = some (.slice p N cap))
    ((simp [go_sem, *]))
    ((go_at_call 94; ((with_reducible refine (C.out _ (by (repeat' (first | (with_reducible assumption) | (with_reducible exact Below.refl _ _) | (with_reducible refine below_wov ?_ ?_ _) | (with_reducible refine below_drewN ?_ _) | (with_reducible refine Below.drew ?_) | (with_reducible refine Below.alloc ?_ ?_ _) | (with_reducible refine Below.setCell ?_ ?_ _) | (with_reducible exact Nat.le_refl _) | omega | (simp only [World.size_alloc, World.size_setCell, World.size_drew, Wov_size, World.heap_drewN]; omega))))).mono ?_); rintro e w' ⟨p2, cap2, rfl, ho, q, rfl⟩)))
  all_goals
    go_wp2
    refine bodyPost_ret (by simp [results, Try.results33, go_sem, f3', f4']; try rfl) rfl ?_
    refine ⟨p2, cap2, rfl, ?_, Wov_of_below (by (repeat' (first | (with_reducible assumption) | (with_reducible exact Below.refl _ _) | (with_reducible refine below_wov ?_ ?_ _) | (with_reducible refine below_drewN ?_ _) | (with_reducible refine Below.drew ?_) | (with_reducible refine Below.alloc ?_ ?_ _) | (with_reducible refine Below.setCell ?_ ?_ _) | (with_reducible exact Nat.le_refl _) | omega | (simp only [World.size_alloc, World.size_setCell, World.size_drew, Wov_size, World.heap_drewN]; omega))))⟩
    exact (ho.chg (B := w.heap.size + 1) (by have := HZ.out; simp; omega) ((Chg.set _ _ _ _).trans (Chg.set _ _ _ _))).later (by have := hB.size; simp; omega)
end Go.Proofs.Ytlcbpckinjkfeaa
