/- Contracts of dbm.Top, the document's All and Top. No condition but that the number is of its kind. -/
import Derived.Test.YtlcbpckinjkfeaaD10
namespace Go.Proofs.Ytlcbpckinjkfeaa
set_option linter.unusedSimpArgs false
set_option linter.unusedVariables false
open Go Go.RowKit Go.Shelf
attribute [local go_sem] Oper.semAt_some Nat.add_assoc Nat.add_lt_add_iff_left lit_lt_add

/-- The matrix that all times keep, of n clocks. -/
def topF (n : Nat) : Nat → Int := fun x => if x / n = x % n then 1 else noneB
def topV {n : Nat} (x : PairC n) : Int := if x.1.1 = x.1.2 then 1 else noneB
theorem topV_upto (n : Nat) : ∀ (k : Nat) (h : k ≤ n * n), (pairsUpto n k h).map (fun x => Value.int .i64 (topV x)) = cellsI k (topF n)
  | 0, _ => rfl
  | k + 1, h => by rw [pairsUpto, List.map_append, topV_upto n k, cellsI_succ]; rfl

/-- What holds between two rounds of Top, of All: the matrix under way lies in block D, its bounds in a row of the call's own. -/
structure TopI (w : World) (n H D base : Nat) (vs : List Value) (W : World) : Prop where
  below : Below w.heap.size w W
  size : base ≤ W.heap.size
  d0 : W.cell? ⟨D, 0, none⟩ = some (.int .i64 n)
  res0 : W.cell? ⟨H, 0, none⟩ = some (.int .i64 0)
  res1 : W.cell? ⟨H, 1, none⟩ = some (.slice none 0 0)
  fr0 : W.frozen? ⟨H, 0, none⟩ = false
  fr1 : W.frozen? ⟨H, 1, none⟩ = false
  fd : W.frozen? ⟨D, 1, none⟩ = false
  row : ∃ v, W.cell? ⟨D, 1, none⟩ = some v ∧ W.ownsRow base 24 1 v vs.length vs

theorem topI_own (w : World) (n H D base : Nat) {β : Type} (F : β → List Value) (n0 : Nat) (hw : w.heap.size ≤ n0) : OwnFrom n0 (fun (s : β) W => TopI w n H D base (F s) W) := fun s A B row hs hg hr => by
  have hr2 := fun r e => (hr r e).2
  refine ⟨?_, Nat.le_trans hs.size hg.size, cell_kept hs.d0 hg hr2, cell_kept hs.res0 hg hr2, cell_kept hs.res1 hg hr2, (frozen_kept hs.res0 hg hr2).trans hs.fr0, (frozen_kept hs.res1 hg hr2).trans hs.fr1, ?_, ?_⟩
  · exact hs.below.trans ⟨hg.os, hg.tape, hg.output, by have := hg.size; have := hs.below.size; omega, fun k hk => hg.block k (Nat.lt_of_lt_of_le hk hs.below.size) (fun e => by have := (hr k e.symm).1; omega)⟩
  · obtain ⟨v, hv, _⟩ := hs.row
    exact (frozen_kept hv hg hr2).trans hs.fd
  · obtain ⟨v, hv, ho⟩ := hs.row
    refine ⟨v, cell_kept hv hg hr2, ho.kept hg ?_⟩
    rcases ho.2 with ⟨rfl, _⟩ | ⟨g, cap, cur, rfl, _, hgb, _⟩
    · exact .inl rfl
    · refine .inr fun e => ?_
      obtain ⟨o, ho1, ho2⟩ := hr2 g (by simpa [Value.ownBlock] using e.symm)
      rw [hgb] at ho1; cases ho1; cases ho2

/-- Behind an append to a row of the call's own: what lies below the rows is as it was. -/
theorem app_below {W w1 : World} {base e k : Nat} {v : Value} {xs : List Value} {tmp : Obj} (hrow : W.ownsRow base e 1 v k xs) (hb : base ≤ W.heap.size) (hgrow : (W.alloc tmp).grownBy w1 v.ownBlock) : Below base W w1 :=
  ((Below.refl base W).alloc hb tmp).grown hgrow (by simp; omega) (fun j ej => by
    rcases hrow.2 with ⟨rfl, _⟩ | ⟨g, cap, cur, rfl, hg, _⟩
    · simp [Value.ownBlock] at ej
    · obtain rfl : g = j := by simpa [Value.ownBlock] using ej
      exact hg)
theorem app_keeps {W w1 : World} {base e k : Nat} {v : Value} {xs : List Value} {tmp : Obj} (hrow : W.ownsRow base e 1 v k xs) (hgrow : (W.alloc tmp).grownBy w1 v.ownBlock) : KeepsOthers W w1 :=
  (KeepsOthers.alloc W tmp).trans (KeepsOthers.of_grownBy hgrow fun j o ej hj => by
    rcases (hrow.alloc tmp).2 with ⟨rfl, _⟩ | ⟨g, cap, cur, rfl, _, hgb, _⟩
    · simp [Value.ownBlock] at ej
    · obtain rfl : g = j := by simpa [Value.ownBlock] using ej
      rw [hgb] at hj; cases hj; rfl)
theorem row_set {W : World} {base e k D x : Nat} {v v2 : Value} {xs : List Value} (hrow : W.ownsRow base e 1 v k xs) (hD : D < base) : (W.setCell ⟨D, x, none⟩ v2).ownsRow base e 1 v k xs := by
  refine hrow.kept (row := some D) ⟨rfl, rfl, rfl, by simp [World.setCell], fun j hj hne => Below.heap_setCell _ _ _ j (fun e => hne (by rw [e]))⟩ ?_
  rcases hrow.2 with ⟨rfl, _⟩ | ⟨g, cap, cur, rfl, hg, _⟩
  · exact .inl rfl
  · refine .inr fun e => ?_
    have : g = D := by simpa [Value.ownBlock] using e
    omega

/-- The invariant behind one more append, and the store back. -/
theorem TopI.step {w W w1 : World} {n H D base : Nat} {vs : List Value} {v v' u : Value} {tmp : Obj} (h : TopI w n H D base vs W) (hwH : w.heap.size ≤ H) (hHD : H < D) (hD : D < base) (hv : W.cell? ⟨D, 1, none⟩ = some v) (hrow : W.ownsRow base 24 1 v vs.length vs)
    (hown : w1.ownsRow base 24 1 v' (vs.length + 1) (vs ++ [u])) (hgrow : (W.alloc tmp).grownBy w1 v.ownBlock) : TopI w n H D base (vs ++ [u]) (w1.setCell ⟨D, 1, none⟩ v') := by
  have hb := app_below hrow h.size hgrow
  have c1 := (hb.cell (p := ⟨D, 1, none⟩) hD).trans hv
  refine ⟨((h.below.trans (hb.mono (by omega))).setCell (p := ⟨D, 1, none⟩) (by simp; omega) _), by have := h.size; have := hb.size; simp [World.setCell]; omega, ?_, ?_, ?_, ?_, ?_, ?_, v', ?_, ?_⟩
  · rw [World.cell?_setCell_other _ _ _ _ (by simp)]; exact (hb.cell (p := ⟨D, 0, none⟩) hD).trans h.d0
  · rw [World.cell?_setCell_other _ _ _ _ (fun e => by have := congrArg Addr.block e; simp at this; omega)]; exact (hb.cell (p := ⟨H, 0, none⟩) (by simp; omega)).trans h.res0
  · rw [World.cell?_setCell_other _ _ _ _ (fun e => by have := congrArg Addr.block e; simp at this; omega)]; exact (hb.cell (p := ⟨H, 1, none⟩) (by simp; omega)).trans h.res1
  · rw [World.frozen?_setCell]; exact (hb.frozen (p := ⟨H, 0, none⟩) (by simp; omega)).trans h.fr0
  · rw [World.frozen?_setCell]; exact (hb.frozen (p := ⟨H, 1, none⟩) (by simp; omega)).trans h.fr1
  · rw [World.frozen?_setCell]; exact (hb.frozen (p := ⟨D, 1, none⟩) hD).trans h.fd
  · rw [setCell_cell_self, c1]; rfl
  · rw [List.length_append]; exact row_set hown hD

def topPost (w : World) (n : Nat) (e : Ending) (W : World) : Prop := ∃ B cap, e = .returned (.tuple #[.agg #[.int .i64 n, .slice (some ⟨B, 0, none⟩) (n * n) cap], .int .i64 0]) ∧ w.heap.size ≤ B ∧ B < W.heap.size ∧ HoldsI W B (n * n) (topF n) ∧ ∃ q, W = Wov w q
theorem wpIn_world {F : Fence} {r : Nat} {P : Program} {c : Code} {Q : Exit → Act → World → Prop} {a : Act} {W0 : World} (S : World → Prop) (hS : S W0) (h : ∀ W, S W → c.wpIn F r P Q a W) : c.wpIn F r P Q a W0 := h _ hS

set_option maxRecDepth 100000 in
set_option maxHeartbeats 4000000 in
theorem top_in (n : Nat) (w : World) (hn0 : 1 ≤ n) (hn : n ≤ 4) : CallsIn Fence.wide 3 Try.prog 73 #[.int .i64 n] w (topPost w n) := by
  have hq0 : n * n ≤ 4 * 4 := Nat.mul_le_mul hn hn
  have hq1 : 1 * 1 ≤ n * n := Nat.mul_le_mul hn0 hn0
  obtain ⟨i0, hi, hz0, hz1, hz2⟩ := info_parts infoB
  have HI := Lib.hid hi
  have HZ := Lib.hid hz0
  have H1 := Lib.hid hz1
  have H2 := Lib.hid hz2
  clear hi hz0 hz1 hz2
  refine callsIn_of_wp_marks Try.func73 rfl trivial ?_ rfl
  simp only [Try.ntmps73, List.size_toArray, List.length_cons, List.length_nil, Nat.reduceAdd, Nat.reduceSub, Array.replicate_succ, Array.replicate_zero, List.push_toArray, List.append_toArray, List.nil_append, List.cons_append]
  gi_wp2_with (refine ⟨trivial, ?_⟩; gi_at_call 91; refine (callsIn_wide.2 (pairs_any _ _)).mono ?_; rintro e w' ⟨rfl, rfl⟩)
  refine wpIn_world (fun W => W.heap.size = w.heap.size + 3 ∧ TopI w n w.heap.size (w.heap.size + 1) W.heap.size [] W ∧ W.cell? ⟨w.heap.size + 2, 0, none⟩ = some (.int .i64 n)) ⟨by simp, ⟨by (repeat' (first | (with_reducible assumption) | (with_reducible exact Below.refl _ _) | (with_reducible refine below_wov ?_ ?_ _) | (with_reducible refine below_drewN ?_ _) | (with_reducible refine Below.drew ?_) | (with_reducible refine Below.alloc ?_ ?_ _) | (with_reducible refine Below.setCell ?_ ?_ _) | (with_reducible exact Nat.le_refl _) | omega | (simp only [World.size_alloc, World.size_setCell, World.size_drew, Wov_size, World.heap_drewN]; omega))), by simp, by simp [go_sem], by simp [go_sem], by simp [go_sem], by simp [go_sem], by simp [go_sem], by simp [go_sem], .slice none 0 0, by simp [go_sem], World.ownsRow_nil _ _ _ _⟩, by simp [go_sem]⟩ ?_
  rintro w3 ⟨hz, hT, b2⟩
  apply wpIn_pairs hn0 hn (Bx := w.heap.size + 2) rfl rfl (by omega) b2 (fun pre W => TopI w n w.heap.size (w.heap.size + 1) w3.heap.size (pre.map fun x => Value.int .i64 (topV x)) W ∧ pre.length ≤ n * n ∧ W.cell? ⟨w.heap.size + 2, 0, none⟩ = some (.int .i64 n)) (fun _ _ _ => False) ?own (fun _ _ _ _ _ h _ _ => h) ⟨hT, by simp, b2⟩
  case own =>
    have h1 := topI_own w n w.heap.size (w.heap.size + 1) w3.heap.size (fun pre : List (PairC n) => pre.map fun x => Value.int .i64 (topV x)) w3.heap.size (by omega)
    exact fun s A B row hs hg hr => ⟨h1 s A B row hs.1 hg hr, hs.2.1, cell_kept hs.2.2 hg (fun r e => (hr r e).2)⟩
  case hassign =>
    intro l x W K hK
    simp only [pairE]
    gi_wp2
    exact hK
  case hbody =>
    rintro l pre ⟨⟨i, j⟩, hi, hj⟩ W ⟨hT, hlen, e2⟩ hlt
    obtain ⟨v, hv, hrow⟩ := hT.row
    have hfd := hT.fd
    have hsz := hT.size
    rw [List.length_map] at hrow
    have HT := Lib.hid hT
    have HR := Lib.hid hrow
    have hD1 : w.heap.size + 1 < w3.heap.size := by omega
    clear hT hrow b2
    have step : Hid (∀ (u : Int), u = topV (⟨(i, j), hi, hj⟩ : PairC n) → ∀ v' w1, w1.ownsRow w3.heap.size 24 1 v' (pre.length + 1) (pre.map (fun x => Value.int .i64 (topV x)) ++ [.int .i64 u]) → (W.alloc (.cells #[.int .i64 u] 24)).grownBy w1 v.ownBlock →
        (w1.cell? ⟨w.heap.size + 1, 1, none⟩ = some v ∧ w1.frozen? ⟨w.heap.size + 1, 1, none⟩ = false) ∧
        ownPostK (KeepsBox (w.heap.size + 2) (.int .i64 n)) (fun pre W => TopI w n w.heap.size (w.heap.size + 1) w3.heap.size (pre.map fun x => Value.int .i64 (topV x)) W ∧ pre.length ≤ n * n ∧ W.cell? ⟨w.heap.size + 2, 0, none⟩ = some (.int .i64 n)) (fun _ _ _ => False) (pre ++ [⟨(i, j), hi, hj⟩]) W .normal ⟨#[], []⟩ (w1.setCell ⟨w.heap.size + 1, 1, none⟩ v')) := by
      intro u hu v' w1 hown hgrow
      have hb := app_below HR.out hsz hgrow
      have hlm : (pre.map fun x => Value.int .i64 (topV x)).length = pre.length := List.length_map _
      have hst := HT.out.step (Nat.le_refl _) (by omega) hD1 hv (by rw [hlm]; exact HR.out) (by rw [hlm]; exact hown) hgrow
      have hbx : (w1.setCell ⟨w.heap.size + 1, 1, none⟩ v').cell? ⟨w.heap.size + 2, 0, none⟩ = some (.int .i64 n) := by
        rw [World.cell?_setCell_other _ _ _ _ (fun e => by have := congrArg Addr.block e; simp at this)]
        exact (hb.cell (p := ⟨w.heap.size + 2, 0, none⟩) (by simp; omega)).trans e2
      refine ⟨⟨(hb.cell (p := ⟨w.heap.size + 1, 1, none⟩) hD1).trans hv, (hb.frozen (p := ⟨w.heap.size + 1, 1, none⟩) hD1).trans hfd⟩, (app_keeps HR.out hgrow).trans (KeepsOthers.setCell _ _ _), fun _ => hbx, ?_, ?_, hbx⟩
      · rw [List.map_append, List.map_singleton, ← hu]; exact hst
      · simp; omega
    by_cases hij : i = j
    · have hb1 : ((i : Int) == (j : Int)) = true := by rw [beq_iff_eq]; omega
      have htv : Hid ((1 : Int) = topV (⟨(i, j), hi, hj⟩ : PairC n)) := by show _ = _; simp [topV, hij]
      have HIJ := Lib.hid hij
      clear hij
      gi_wp2_with (gi_at_builtin; refine wpListIn_append_own _ rfl _ _ 37 rfl w3.heap.size 24 i0 (.int .i64 0) 1 8 Try.underlying37 HI.out HZ.out H1.out H2.out rfl (by decide) _ _ _ rfl (HR.out.alloc _) ⟨W.heap.size, 0, none⟩ 1 1 [.int .i64 1] rfl rfl (cell_one_new _ _ _) (by simp [Value.oneCell']) (by unfold maxLen; omega) (by omega) (by simp; omega) ?_; intro v' w1 hown' hgrow _; obtain ⟨g', cap', rfl⟩ := ownsRow_succ hown'; obtain ⟨⟨k1, k2⟩, k3⟩ := step.out 1 htv.out _ w1 hown' hgrow)
      exact k3
    · have hb1 : ((i : Int) == (j : Int)) = false := by rw [beq_eq_false_iff_ne]; omega
      have htv : Hid ((9223372036854775807 : Int) = topV (⟨(i, j), hi, hj⟩ : PairC n)) := by show _ = _; simp [topV, hij, noneB]
      have HIJ := Lib.hid hij
      clear hij
      gi_wp2_with (gi_at_builtin; refine wpListIn_append_own _ rfl _ _ 37 rfl w3.heap.size 24 i0 (.int .i64 0) 1 8 Try.underlying37 HI.out HZ.out H1.out H2.out rfl (by decide) _ _ _ rfl (HR.out.alloc _) ⟨W.heap.size, 0, none⟩ 1 1 [.int .i64 9223372036854775807] rfl rfl (cell_one_new _ _ _) (by simp [Value.oneCell']) (by unfold maxLen; omega) (by omega) (by simp; omega) ?_; intro v' w1 hown' hgrow _; obtain ⟨g', cap', rfl⟩ := ownsRow_succ hown'; obtain ⟨⟨k1, k2⟩, k3⟩ := step.out 9223372036854775807 htv.out _ w1 hown' hgrow)
      exact k3
  case hdone =>
    rintro D0 W hD0 ⟨hT, hlen, e2⟩ hK
    obtain ⟨v, hv, hrow⟩ := hT.row
    rw [List.length_map, show (pairsAll n).map (fun x => Value.int .i64 (topV x)) = cellsI (n * n) (topF n) from topV_upto n _ _, pairsAll, pairsUpto_len] at hrow
    obtain ⟨B, cap, rfl, hB1, hB2, hH⟩ := holds_of_row (by omega) hrow
    have d0 := hT.d0
    have r0 := hT.res0
    have r1 := hT.res1
    have s0 := hT.fr0
    have s1 := hT.fr1
    have hbl := hT.below
    have HH := Lib.hid hH
    clear hT hrow hlen e2 b2 hH
    gi_wp2
    have q0 : ((W.setCell ⟨w.heap.size, 0, none⟩ (.int .i64 n)).setCell ⟨w.heap.size, 1, none⟩ (.slice (some ⟨B, 0, none⟩) (n * n) cap)).heap[D0]? = some (.deferred (some [])) :=
      ((KeepsOthers.setCell W ⟨w.heap.size, 0, none⟩ (.int .i64 n)).trans (KeepsOthers.setCell _ ⟨w.heap.size, 1, none⟩ (.slice (some ⟨B, 0, none⟩) (n * n) cap))).same D0 _ hK rfl
    refine ⟨by simp, .inl ⟨_, _, rfl, run_takeDeferred q0, ?_⟩⟩
    have n0 : ((W.setCell ⟨w.heap.size, 0, none⟩ (.int .i64 n)).setCell ⟨w.heap.size, 1, none⟩ (.slice (some ⟨B, 0, none⟩) (n * n) cap)).cell? ⟨w.heap.size, 0, none⟩ = some (.int .i64 n) := by
      rw [World.cell?_setCell_other _ _ _ _ (by simp), setCell_cell_self, r0]; rfl
    have n1 : ((W.setCell ⟨w.heap.size, 0, none⟩ (.int .i64 n)).setCell ⟨w.heap.size, 1, none⟩ (.slice (some ⟨B, 0, none⟩) (n * n) cap)).cell? ⟨w.heap.size, 1, none⟩ = some (.slice (some ⟨B, 0, none⟩) (n * n) cap) := by
      rw [setCell_cell_self, World.cell?_setCell_other _ _ _ _ (by simp), r1]; rfl
    have k0 := cell_kept n0 (grownBy_putObj' _ D0 (.deferred none)) (fun r e => by cases e; exact ⟨_, q0, rfl⟩)
    have k1 := cell_kept n1 (grownBy_putObj' _ D0 (.deferred none)) (fun r e => by cases e; exact ⟨_, q0, rfl⟩)
    refine ⟨.tuple #[.agg #[.int .i64 n, .slice (some ⟨B, 0, none⟩) (n * n) cap], .int .i64 0], ?_, ?_⟩
    · simp [results, Try.results73, Try.f73, go_sem, k0, k1]
    · refine ⟨B, cap, rfl, by omega, ?_, ?_, Wov_of_below ?_⟩
      · simp [World.setCell, World.putObj]; omega
      · exact (HH.out.of_block (((Chg.set W w.heap.size 0 _).trans (Chg.set _ w.heap.size 1 _)).block B hB2 (by omega))).own (grownBy_putObj' _ D0 _) (fun r e => by cases e; exact ⟨_, q0, rfl⟩)
      · exact ((hbl.setCell (p := ⟨w.heap.size, 0, none⟩) (Nat.le_refl _) _).setCell (p := ⟨w.heap.size, 1, none⟩) (Nat.le_refl _) _).grown (grownBy_putObj' _ D0 _) (by simp [World.setCell]; exact hbl.size) (fun k e => by cases e; omega)
  case hstop =>
    rintro D c pre W _ h _
    exact h.elim

theorem top_ok (n : Nat) (w : World) (hn0 : 1 ≤ n) (hn : n ≤ 4) : Calls Try.prog 73 #[.int .i64 n] w (topPost w n) := callsIn_wide.1 (top_in n w hn0 hn)
theorem top_bad (n : Int) (w : World) (h : n < 1 ∨ 4 < n) : Calls Try.prog 73 #[.int .i64 n] w (Gives w (.tuple #[.agg #[.int .i64 0, .slice none 0 0], .int .i64 2])) := by
  rcases h with h | h
  · go_enter Try.func73, Try.ntmps73
    go_wp2
    go_returns
    exact gives_end rfl (by (repeat' (first | (with_reducible assumption) | (with_reducible exact Below.refl _ _) | (with_reducible refine below_wov ?_ ?_ _) | (with_reducible refine below_drewN ?_ _) | (with_reducible refine Below.drew ?_) | (with_reducible refine Below.alloc ?_ ?_ _) | (with_reducible refine Below.setCell ?_ ?_ _) | (with_reducible exact Nat.le_refl _) | omega | (simp only [World.size_alloc, World.size_setCell, World.size_drew, Wov_size, World.heap_drewN]; omega))))
  · have h2 : ¬ n < 1 := by omega
    go_enter Try.func73, Try.ntmps73
    go_wp2
    go_returns
    exact gives_end rfl (by (repeat' (first | (with_reducible assumption) | (with_reducible exact Below.refl _ _) | (with_reducible refine below_wov ?_ ?_ _) | (with_reducible refine below_drewN ?_ _) | (with_reducible refine Below.drew ?_) | (with_reducible refine Below.alloc ?_ ?_ _) | (with_reducible refine Below.setCell ?_ ?_ _) | (with_reducible exact Nat.le_refl _) | omega | (simp only [World.size_alloc, World.size_setCell, World.size_drew, Wov_size, World.heap_drewN]; omega))))
#print axioms top_ok
end Go.Proofs.Ytlcbpckinjkfeaa
