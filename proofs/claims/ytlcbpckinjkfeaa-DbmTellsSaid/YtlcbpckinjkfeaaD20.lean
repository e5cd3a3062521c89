/- Contract of dbm.Keeps. No condition but on the count of bounds and times, and that numbers are of their kind. -/
import Derived.Test.YtlcbpckinjkfeaaD19
namespace Go.Proofs.Ytlcbpckinjkfeaa
set_option linter.unusedSimpArgs false
set_option linter.unusedVariables false
open Go Go.RowKit Go.Shelf
attribute [local go_sem] Oper.semAt_some Nat.add_assoc Nat.add_lt_add_iff_left lit_lt_add

/-- The times, behind that of clock 0: one append, of however many. -/
theorem wpListIn_all {F : Fence} {r : Nat} {ops : Array Oper} {rest : List Oper} {o : Oper} {a : Act} {Q : Exit → Act → World → Prop} (X : World) (g : Nat) (hgx : X.heap.size = g)
    (hgd : o.guard = none) (s x : Operand) (hop : o.op = Op.call { callee := Callee.builtin Builtin.append, args := #[s, x], argTypes := #[40, 40] }) (hty : o.type = 40)
    (hs : a.eval s = .slice (some ⟨g, 0, none⟩) 1 1) (q : Option Addr) (M cq : Nat) (T : Nat → Int × Int) (hx : a.eval x = .slice q M cq) (hR : SlR X q M T) (hM : M ≤ 1000000)
    (h : ∀ Z cap w', Below g (X.alloc (.cells #[.int .i64 0, .int .i64 1] 23)) w' → g ≤ Z → Z < w'.heap.size → HoldsR w' Z (M + 1) (tm T) → wpListIn F r Try.prog ops Q rest (a.put o.dst (.slice (some ⟨Z, 0, none⟩) (M + 1) cap)) w') :
    wpListIn F r Try.prog ops Q (o :: rest) a (X.alloc (.cells #[.int .i64 0, .int .i64 1] 23)) := by
  refine wpListIn_plain hgd fun K hK' => ?_
  subst hgx
  unfold Oper.wpIn
  refine ⟨by simp [Oper.about, hop, resolve, Target.leads, Sem.run_pure], ?_⟩
  rw [Oper.semAt_plain F _ _ (by rw [hop]; intro c hc'; cases hc')]
  by_cases h0 : M = 0
  · subst h0
    have hrun := append_nothing (X.alloc (.cells #[.int .i64 0, .int .i64 1] 23)) X.heap.size q cq
    simp [execOp, hop, hty, resolve, invoke, builtin, hs, hx, hrun, Result.andThen]
    refine hK' _ _ (h X.heap.size 1 _ (Below.refl _ _) (Nat.le_refl _) (by simp) ?_)
    intro y hy
    obtain rfl : y = 0 := by omega
    constructor <;> simp [go_sem, tm]
  · obtain ⟨B, off, rfl, hB, hc⟩ : ∃ B off, q = some ⟨B, off, none⟩ ∧ B < X.heap.size ∧ ∀ x, x < M → X.cell? ⟨B, off + x * 2, none⟩ = some (.int .i64 (T x).1) ∧ X.cell? ⟨B, off + (x * 2 + 1), none⟩ = some (.int .i64 (T x).2) := by
      rcases hR with h | h
      · omega
      · exact h
    obtain ⟨i0, hi, hz1, hz2⟩ : ∃ i0, Try.prog.info? 23 = some i0 ∧ i0.size = 2 ∧ i0.bytes = 16 := by
      have := infoR
      cases h : Try.prog.info? 23 with
      | none => rw [h] at this; cases this
      | some i => rw [h] at this; simp at this; exact ⟨i, rfl, this.1, this.2⟩
    have hz0 : i0.zero = some (.agg #[.int .i64 0, .int .i64 0]) := by
      have := infoRz
      rw [hi] at this; simpa using this
    obtain ⟨v', w', hrun, r1, r2, r3⟩ := run_append_own (P := Try.prog) (X.alloc (.cells #[.int .i64 0, .int .i64 1] 23)) X.heap.size 40 40 23 i0 (.agg #[.int .i64 0, .int .i64 0]) 2 16 Try.underlying40 hi hz0 hz1 hz2 rfl (by decide) _ 1 _ (row_lit X T X.heap.size (Nat.le_refl _)) ⟨B, off, none⟩ M cq (cellsR T M) (cellsR_len T M)
      (fun j u hj => by
        rw [Addr.add_lit]
        obtain ⟨y, hy, ⟨rfl, rfl⟩ | ⟨rfl, rfl⟩⟩ := cellsR_get' hj
        · exact (World.cell?_alloc_lt _ _ _ hB).trans (hc y hy).1
        · exact (World.cell?_alloc_lt _ _ _ hB).trans (hc y hy).2) cellsR_one (by unfold maxLen; omega) (by omega) (by simp)
    rw [cellsR_tm, Nat.add_comm 1 M] at r1
    obtain ⟨Z, cap, rfl, z1, z2, z3⟩ := holdsR_of_row (by omega) r1
    simp [execOp, hop, hty, resolve, invoke, builtin, hs, hx, hrun, Result.andThen]
    refine hK' _ _ (h Z cap _ ⟨r2.os, r2.tape, r2.output, r2.size, fun k hk => r2.block k (by simp; omega) (fun e => by simp [Value.ownBlock] at e; omega)⟩ z1 z2 z3)

theorem at_wovo {M B off n N cap : Nat} {W : World} (hn : n ≤ 4) (hN2 : N ≤ 9223372036854775807) (hM : M < W.heap.size)
    (c0 : W.cell? ⟨M, 0, none⟩ = some (.int .i64 n)) (c1 : W.cell? ⟨M, 1, none⟩ = some (.slice (some ⟨B, off, none⟩) N cap)) (i j : Nat) (hi : i ≤ 4) (hj : j ≤ 4) (hN : i * n + j < N) (p : Gr) :
    Calls Try.prog 85 #[.pointer (some ⟨M, 0, none⟩), .int .i64 i, .int .i64 j] (Wov W p) fun e w' => e = .returned (.pointer (some ⟨B, off + (i * n + j), none⟩)) ∧ ∃ q, w' = Wov W q :=
  (at_off M B off n i j N cap (Wov W p) hn hi hj hN hN2 (by rw [Wov_cell_past _ _ _ _ hM]; exact c0) (by rw [Wov_cell_past _ _ _ _ hM]; exact c1)).mono fun e w' ⟨he, m, hm⟩ => ⟨he, _, hm.trans (Wov_drewN _ _ _)⟩

def keptP {n : Nat} (f : Nat → Int) (T : Nat → Int × Int) (x : PairC n) : Bool := keptB (tm T x.1.1).1 (tm T x.1.1).2 (tm T x.1.2).1 (tm T x.1.2).2 (f (x.1.1 * n + x.1.2))

set_option maxRecDepth 100000 in
set_option maxHeartbeats 4000000 in
theorem keeps_in (n N : Nat) (p : Option Addr) (cap : Nat) (f : Nat → Int) (q : Option Addr) (M cq : Nat) (T : Nat → Int × Int) (w : World) (hNn : N = n * n) (hM : M + 1 = n) (hn : n ≤ 4) (hS : SlP w p N f) (hF : Fits N f) (hok : okD n N f = true) (hR : SlR w q M T) (hFR : FitsR M T) (har : allRat M T = true) :
    CallsIn Fence.wide 3 Try.prog 31 #[.agg #[.int .i64 n, .slice p N cap], .slice q M cq] w (Gives w (bpair (keepsD n N f M T))) := by
  have HN := Lib.hid hNn
  have hq := Nat.mul_le_mul hn hn
  rw [← hNn] at hq
  have R : Hid (keepsD n N f M T = (keptAll n f T, 0)) := by
    show _ = _
    unfold keepsD
    rw [hok, har]
    show (if (true && true) = true then (if (M : Int) = (n : Int) - 1 then (keptAll (n : Int).toNat f T, (0 : Int)) else (false, 40)) else (false, 8)) = _
    simp only [Bool.and_self, if_true]
    rw [if_pos (by omega)]; rfl
  have CK : Hid (∀ w', Below w.heap.size w w' → Calls Try.prog 35 #[.agg #[.int .i64 n, .slice p N cap]] w' (Gives w' (.int .i64 0))) := fun w' hb => by
    have := dbmCheck_any n p N cap f w' (by unfold fits64; omega) (hS.below hb) hF (by omega)
    rwa [hok] at this
  have CR : Hid (∀ w', Below w.heap.size w w' → Calls Try.prog 89 #[.slice q M cq, .func (.func 90) #[] #[]] w' (Gives w' (.bool false))) := fun w' hb => by
    have := containsR_any q M cq T w' (hR.below hb) hFR (by omega)
    rwa [har] at this
  have SR : Hid (∀ w', Below w.heap.size w w' → SlR w' q M T) := fun w' hb => hR.below hb
  have OKR : Hid (∀ x, x < n → okRat (tm T x).1 (tm T x).2 = true ∧ fits64 (tm T x).1) := fun x hx => by
    cases x with
    | zero => exact ⟨(by decide : okRat 0 1 = true), (by decide : fits64 0)⟩
    | succ x => exact ⟨allRat_iff.1 har x (by omega), (hFR x (by omega)).1⟩
  have OKF : Hid (Fits N f ∧ ∀ i j, i < n → j < n → okB (f (i * n + j)) = true) := ⟨hF, fun i j hi hj => bd_okB ((okD_bd (n := n) (f := f) (by rw [← hNn]; exact hok)).2.2 i j hi hj) (by omega)⟩
  have hMn : ((M : Int) != (n : Int) - 1) = false := by rw [bne_eq_false_iff_eq]; omega
  have hMn2 : ((M : Int) != (M : Int)) = false := by simp
  have hM2 : M ≤ 1000000 := by omega
  have hMM : (n : Int) - 1 = (M : Int) := by omega
  have hn0 : 1 ≤ n := by omega
  have hN1 : 1 * 1 ≤ n * n := Nat.mul_le_mul hn0 hn0
  obtain ⟨B, off, rfl, hB, hCf⟩ : ∃ B off, p = some ⟨B, off, none⟩ ∧ B < w.heap.size ∧ Hid (∀ x, x < N → w.cell? ⟨B, off + x, none⟩ = some (.int .i64 (f x))) := by
    rcases hS with h | h
    · omega
    · exact h
  clear hS hF hR hFR hok har hNn
  refine callsIn_of_wp_marks Try.func31 rfl trivial ?_ rfl
  simp only [Try.ntmps31, List.size_toArray, List.length_cons, List.length_nil, Nat.reduceAdd, Nat.reduceSub, Array.replicate_succ, Array.replicate_zero, List.push_toArray, List.append_toArray, List.nil_append, List.cons_append]
  gi_wp2_with (first
    | (refine ⟨trivial, ?_⟩; gi_at_call 35; refine (callsIn_wide.2 (CK.out _ (by (repeat' (first | (with_reducible assumption) | (with_reducible exact Below.refl _ _) | (with_reducible refine below_wov ?_ ?_ _) | (with_reducible refine below_drewN ?_ _) | (with_reducible refine Below.drew ?_) | (with_reducible refine Below.alloc ?_ ?_ _) | (with_reducible refine Below.setCell ?_ ?_ _) | (with_reducible exact Nat.le_refl _) | omega | (simp only [World.size_alloc, World.size_setCell, World.size_drew, Wov_size, World.heap_drewN]; omega)))))).mono ?_; rintro e w' ⟨rfl, p1, rfl⟩)
    | (refine ⟨trivial, ?_⟩; gi_at_call 89; refine (callsIn_wide.2 (CR.out _ (by (repeat' (first | (with_reducible assumption) | (with_reducible exact Below.refl _ _) | (with_reducible refine below_wov ?_ ?_ _) | (with_reducible refine below_drewN ?_ _) | (with_reducible refine Below.drew ?_) | (with_reducible refine Below.alloc ?_ ?_ _) | (with_reducible refine Below.setCell ?_ ?_ _) | (with_reducible exact Nat.le_refl _) | omega | (simp only [World.size_alloc, World.size_setCell, World.size_drew, Wov_size, World.heap_drewN]; omega)))))).mono ?_; rintro e w' ⟨rfl, p2, rfl⟩)
    | (gi_at_builtin; refine wpListIn_all _ _ (by simp only [World.size_alloc, Wov_size, Array.size_append]; omega) rfl _ _ rfl rfl rfl q M cq T rfl (SR.out _ (by (repeat' (first | (with_reducible assumption) | (with_reducible exact Below.refl _ _) | (with_reducible refine below_wov ?_ ?_ _) | (with_reducible refine below_drewN ?_ _) | (with_reducible refine Below.drew ?_) | (with_reducible refine Below.alloc ?_ ?_ _) | (with_reducible refine Below.setCell ?_ ?_ _) | (with_reducible exact Nat.le_refl _) | omega | (simp only [World.size_alloc, World.size_setCell, World.size_drew, Wov_size, World.heap_drewN]; omega))))) hM2 ?_; intro Z zc w1 hb1 hz1 hz2 hz3
       have hbw : Below w.heap.size w w1 := Below.trans (by (repeat' (first | (with_reducible assumption) | (with_reducible exact Below.refl _ _) | (with_reducible refine below_wov ?_ ?_ _) | (with_reducible refine below_drewN ?_ _) | (with_reducible refine Below.drew ?_) | (with_reducible refine Below.alloc ?_ ?_ _) | (with_reducible refine Below.setCell ?_ ?_ _) | (with_reducible exact Nat.le_refl _) | omega | (simp only [World.size_alloc, World.size_setCell, World.size_drew, Wov_size, World.heap_drewN]; omega)))) (hb1.mono (by omega))
       have y0 : w1.cell? ⟨w.heap.size, 0, none⟩ = some (.int .i64 n) := (hb1.cell (by show w.heap.size < _; omega)).trans (by simp [go_sem])
       have y1 : w1.cell? ⟨w.heap.size, 1, none⟩ = some (.slice (some ⟨B, off, none⟩) N cap) := (hb1.cell (by show w.heap.size < _; omega)).trans (by simp [go_sem])
       have y2 : w1.cell? ⟨w.heap.size + 1, 0, none⟩ = some (.bool false) := (hb1.cell (by show w.heap.size + 1 < _; omega)).trans (by simp [go_sem])
       have y3 : w1.cell? ⟨w.heap.size + 2, 0, none⟩ = some (.int .i64 0) := (hb1.cell (by show w.heap.size + 2 < _; omega)).trans (by simp [go_sem])
       have y4 : w1.frozen? ⟨w.heap.size + 1, 0, none⟩ = false := (hb1.frozen (by show w.heap.size + 1 < _; omega)).trans (by simp [go_sem])
       have y5 : w1.frozen? ⟨w.heap.size + 2, 0, none⟩ = false := (hb1.frozen (by show w.heap.size + 2 < _; omega)).trans (by simp [go_sem])
       have y6 : w.heap.size + 3 ≤ w1.heap.size := Nat.le_trans (by omega) (Nat.le_of_lt hz2)
       have y7 : w.heap.size < w1.heap.size := by omega
       have y8 : w.heap.size + 1 < w1.heap.size := by omega
       have y9 : w.heap.size + 2 < w1.heap.size := by omega
       have hbw2 := Lib.hid hbw
       have HR3 := Lib.hid hz3
       clear hb1 hz3 hbw)
    | (refine ⟨trivial, ?_⟩; gi_at_call 91; refine (callsIn_wide.2 (pairs_any _ _)).mono ?_; rintro e w' ⟨rfl, rfl⟩))
  refine wpIn_world (fun W => W.heap.size = w1.heap.size + 4 ∧ Below w1.heap.size w1 W ∧ W.cell? ⟨w1.heap.size, 0, none⟩ = some (.slice (some ⟨Z, 0, none⟩) n zc) ∧ W.cell? ⟨w1.heap.size + 1, 0, none⟩ = some (.int .i64 n) ∧ W.cell? ⟨w1.heap.size + 1, 1, none⟩ = some (.slice (some ⟨B, off, none⟩) N cap)
    ∧ W.cell? ⟨w1.heap.size + 2, 0, none⟩ = some (.pointer (some ⟨w1.heap.size + 1, 0, none⟩)) ∧ W.cell? ⟨w1.heap.size + 3, 0, none⟩ = some (.int .i64 n)) ⟨by simp, by (repeat' (first | (with_reducible assumption) | (with_reducible exact Below.refl _ _) | (with_reducible refine below_wov ?_ ?_ _) | (with_reducible refine below_drewN ?_ _) | (with_reducible refine Below.drew ?_) | (with_reducible refine Below.alloc ?_ ?_ _) | (with_reducible refine Below.setCell ?_ ?_ _) | (with_reducible exact Nat.le_refl _) | omega | (simp only [World.size_alloc, World.size_setCell, World.size_drew, Wov_size, World.heap_drewN]; omega))), by simp [go_sem], by simp [go_sem], by simp [go_sem], by simp [go_sem], by simp [go_sem]⟩ ?_
  rintro w3 ⟨hz, hb3, c0, c1, c2, c3, c4⟩
  have x2 : w3.cell? ⟨w.heap.size + 1, 0, none⟩ = some (.bool false) := (hb3.cell (by show w.heap.size + 1 < _; omega)).trans y2
  have x3 : w3.cell? ⟨w.heap.size + 2, 0, none⟩ = some (.int .i64 0) := (hb3.cell (by show w.heap.size + 2 < _; omega)).trans y3
  have x4 : w3.frozen? ⟨w.heap.size + 1, 0, none⟩ = false := (hb3.frozen (by show w.heap.size + 1 < _; omega)).trans y4
  have x5 : w3.frozen? ⟨w.heap.size + 2, 0, none⟩ = false := (hb3.frozen (by show w.heap.size + 2 < _; omega)).trans y5
  have HW3 := Lib.hid (hbw2.out.trans (hb3.mono (by omega)))
  have HT3 := Lib.hid (HR3.out.below hb3 hz2)
  have HF3 : Hid (∀ x, x < N → w3.cell? ⟨B, off + x, none⟩ = some (.int .i64 (f x))) := fun x hx => (HW3.out.cell (p := ⟨B, off + x, none⟩) hB).trans (hCf.out x hx)
  clear y0 y1 y2 y3 y4 y5 hb3
  apply wpIn_pairs hn0 hn (Bx := w1.heap.size + 3) rfl rfl (by omega) c4 (fun pre W => Below w3.heap.size w3 W ∧ pre.all (keptP f T) = true)
    (fun c _ W => c = .ret ∧ keptAll n f T = false ∧ Below w.heap.size w W ∧ w3.heap.size ≤ W.heap.size ∧ W.cell? ⟨w.heap.size + 1, 0, none⟩ = some (.bool false) ∧ W.cell? ⟨w.heap.size + 2, 0, none⟩ = some (.int .i64 0)) ?own ?ownx ⟨Below.refl _ _, rfl⟩
  case own =>
    exact fun s A B row hs hg hr => ⟨hs.1.trans ⟨hg.os, hg.tape, hg.output, by have := hg.size; have := hs.1.size; omega, fun k hk => hg.block k (Nat.lt_of_lt_of_le hk hs.1.size) (fun e => by have := (hr k e.symm).1; omega)⟩, hs.2⟩
  case ownx =>
    exact fun c s A B row hs hg hr => ⟨hs.1, hs.2.1, hs.2.2.1.trans ⟨hg.os, hg.tape, hg.output, by have := hg.size; have := hs.2.2.1.size; omega, fun k hk => hg.block k (Nat.lt_of_lt_of_le hk hs.2.2.1.size) (fun e => by have := (hr k e.symm).1; omega)⟩, Nat.le_trans hs.2.2.2.1 hg.size, cell_kept hs.2.2.2.2.1 hg (fun r e => (hr r e).2), cell_kept hs.2.2.2.2.2 hg (fun r e => (hr r e).2)⟩
  case hassign =>
    intro l x W K hK
    simp only [pairE]
    gi_wp2
    exact hK
  case hbody =>
    rintro l pre ⟨⟨i, j⟩, hi, hj⟩ W ⟨hc2, hall⟩ hlt
    have hs := hc2.size
    have e0 : W.cell? ⟨w1.heap.size, 0, none⟩ = some (.slice (some ⟨Z, 0, none⟩) n zc) := (hc2.cell (by show w1.heap.size < _; omega)).trans c0
    have e1 : W.cell? ⟨w1.heap.size + 1, 0, none⟩ = some (.int .i64 n) := (hc2.cell (by show w1.heap.size + 1 < _; omega)).trans c1
    have e2 : W.cell? ⟨w1.heap.size + 1, 1, none⟩ = some (.slice (some ⟨B, off, none⟩) N cap) := (hc2.cell (by show w1.heap.size + 1 < _; omega)).trans c2
    have e3 : W.cell? ⟨w1.heap.size + 2, 0, none⟩ = some (.pointer (some ⟨w1.heap.size + 1, 0, none⟩)) := (hc2.cell (by show w1.heap.size + 2 < _; omega)).trans c3
    have e4 : W.cell? ⟨w1.heap.size + 3, 0, none⟩ = some (.int .i64 n) := (hc2.cell (by show w1.heap.size + 3 < _; omega)).trans c4
    have f2 : W.cell? ⟨w.heap.size + 1, 0, none⟩ = some (.bool false) := (hc2.cell (by show w.heap.size + 1 < _; omega)).trans x2
    have f3 : W.cell? ⟨w.heap.size + 2, 0, none⟩ = some (.int .i64 0) := (hc2.cell (by show w.heap.size + 2 < _; omega)).trans x3
    have f4 : W.frozen? ⟨w.heap.size + 1, 0, none⟩ = false := (hc2.frozen (by show w.heap.size + 1 < _; omega)).trans x4
    have f5 : W.frozen? ⟨w.heap.size + 2, 0, none⟩ = false := (hc2.frozen (by show w.heap.size + 2 < _; omega)).trans x5
    have ti := HT3.out.below hc2 (by omega) i (by omega)
    have tj := HT3.out.below hc2 (by omega) j (by omega)
    have hij : i * n + j < N := by rw [HN.out]; exact place_lt hi hj
    have cf : W.cell? ⟨B, off + (i * n + j), none⟩ = some (.int .i64 (f (i * n + j))) := (hc2.cell (p := ⟨B, off + (i * n + j), none⟩) (by show B < _; omega)).trans (HF3.out _ hij)
    have z0 : w1.heap.size < W.heap.size := by omega
    have z1 : w1.heap.size + 1 < W.heap.size := by omega
    have z2 : w1.heap.size + 2 < W.heap.size := by omega
    have zZ : Z < W.heap.size := by omega
    have zB : B < W.heap.size := by omega
    have zr : w.heap.size + 1 < W.heap.size := by omega
    have zr2 : w.heap.size + 2 < W.heap.size := by omega
    have AT := Lib.hid (fun p => at_wovo (M := w1.heap.size + 1) (B := B) (off := off) (N := N) (cap := cap) (W := W) hn (by omega) z1 e1 e2 i j (by omega) (by omega) hij p)
    have KP := Lib.hid (ratKeeps_any (tm T i).1 (tm T i).2 (tm T j).1 (tm T j).2 (f (i * n + j)) (OKR.out i hi).2 (OKR.out j hj).2 (OKF.out.1 _ hij))
    rw [show keepsPR (tm T i).1 (tm T i).2 (tm T j).1 (tm T j).2 (f (i * n + j)) = (keptP f T (⟨(i, j), hi, hj⟩ : PairC n), 0) from by unfold keepsPR keptP; rw [(OKR.out i hi).1, (OKR.out j hj).1, OKF.out.2 i j hi hj]; rfl] at KP
    simp only [bpair] at KP
    have HC2 := Lib.hid hc2
    have HALL := Lib.hid hall
    have hmem : Hid ((⟨(i, j), hi, hj⟩ : PairC n) ∈ pairsAll n) := by
      obtain ⟨x, hx, he⟩ := pairsUpto_mem (n * n) (Nat.le_refl _) i j hj (place_lt hi hj)
      have : x = ⟨(i, j), hi, hj⟩ := Subtype.ext he
      rw [← this]; exact hx
    clear x2 x3 x4 x5 c0 c1 c2 c3 c4 hc2 hall
    cases hk : keptP f T (⟨(i, j), hi, hj⟩ : PairC n)
    · rw [hk] at KP
      have HK := Lib.hid hk
      clear hk
      gi_wp2
      refine wpIn_region_wov (by kernel_rfl) (by kernel_rfl) (by kernel_rfl) ?_
      repeat (go_big_quiet_step (first | (go_at_call 85; exact AT.out _) | (go_at_call 24; exact KP.out.at _ _)))
      refine wpQuiet_nil ?_
      rintro _ ⟨pq, rfl⟩
      have hbw : Below W.heap.size W (Wov W pq) := by (repeat' (first | (with_reducible assumption) | (with_reducible exact Below.refl _ _) | (with_reducible refine below_wov ?_ ?_ _) | (with_reducible refine below_drewN ?_ _) | (with_reducible refine Below.drew ?_) | (with_reducible refine Below.alloc ?_ ?_ _) | (with_reducible refine Below.setCell ?_ ?_ _) | (with_reducible exact Nat.le_refl _) | omega | (simp only [World.size_alloc, World.size_setCell, World.size_drew, Wov_size, World.heap_drewN]; omega)))
      have v2 : (Wov W pq).cell? ⟨w.heap.size + 1, 0, none⟩ = some (.bool false) := (hbw.cell (p := ⟨w.heap.size + 1, 0, none⟩) zr).trans f2
      have v3 : (Wov W pq).cell? ⟨w.heap.size + 2, 0, none⟩ = some (.int .i64 0) := (hbw.cell (p := ⟨w.heap.size + 2, 0, none⟩) zr2).trans f3
      have v4 : (Wov W pq).frozen? ⟨w.heap.size + 1, 0, none⟩ = false := (hbw.frozen (p := ⟨w.heap.size + 1, 0, none⟩) zr).trans f4
      have v5 : (Wov W pq).frozen? ⟨w.heap.size + 2, 0, none⟩ = false := (hbw.frozen (p := ⟨w.heap.size + 2, 0, none⟩) zr2).trans f5
      have HBW := Lib.hid hbw
      clear hbw
      gi_wp2
      refine ⟨((keepsOthers_wov W pq).trans (KeepsOthers.setCell _ _ _)).trans (KeepsOthers.setCell _ _ _), rfl, ?_, ?_, ?_, ?_, ?_⟩
      · unfold keptAll
        rw [List.all_eq_false]
        exact ⟨_, hmem.out, by rw [show keptB _ _ _ _ _ = keptP f T (⟨(i, j), hi, hj⟩ : PairC n) from rfl, HK.out]; simp⟩
      · exact (((HW3.out.trans (HC2.out.mono (by omega))).trans (HBW.out.mono (by omega))).setCell (p := ⟨w.heap.size + 1, 0, none⟩) (Nat.le_add_right _ _) _).setCell (p := ⟨w.heap.size + 2, 0, none⟩) (Nat.le_add_right _ _) _
      · simp only [World.size_setCell, Wov_size]; omega
      · rw [World.cell?_setCell_other _ _ _ _ (by simp), setCell_cell_self, v2]; rfl
      · rw [setCell_cell_self, World.cell?_setCell_other _ _ _ _ (by simp), v3]; rfl
    · rw [hk] at KP
      have HK := Lib.hid hk
      clear hk
      gi_wp2
      refine wpIn_region_wov (by kernel_rfl) (by kernel_rfl) (by kernel_rfl) ?_
      repeat (go_big_quiet_step (first | (go_at_call 85; exact AT.out _) | (go_at_call 24; exact KP.out.at _ _)))
      refine wpQuiet_nil ?_
      rintro _ ⟨pq, rfl⟩
      have hbw : Below W.heap.size W (Wov W pq) := by (repeat' (first | (with_reducible assumption) | (with_reducible exact Below.refl _ _) | (with_reducible refine below_wov ?_ ?_ _) | (with_reducible refine below_drewN ?_ _) | (with_reducible refine Below.drew ?_) | (with_reducible refine Below.alloc ?_ ?_ _) | (with_reducible refine Below.setCell ?_ ?_ _) | (with_reducible exact Nat.le_refl _) | omega | (simp only [World.size_alloc, World.size_setCell, World.size_drew, Wov_size, World.heap_drewN]; omega)))
      have HBW := Lib.hid hbw
      clear hbw
      gi_wp2
      refine ⟨keepsOthers_wov W pq, fun _ => (HBW.out.cell (p := ⟨w1.heap.size + 3, 0, none⟩) (by show w1.heap.size + 3 < _; omega)).trans e4, HC2.out.trans (HBW.out.mono hs), ?_⟩
      rw [List.all_append, HALL.out]
      simp [HK.out]
  case hdone =>
    rintro D0 W hD0 ⟨hc2, hall⟩ hK
    have hs := hc2.size
    have f2 : W.cell? ⟨w.heap.size + 1, 0, none⟩ = some (.bool false) := (hc2.cell (by show w.heap.size + 1 < _; omega)).trans x2
    have f3 : W.cell? ⟨w.heap.size + 2, 0, none⟩ = some (.int .i64 0) := (hc2.cell (by show w.heap.size + 2 < _; omega)).trans x3
    have f4 : W.frozen? ⟨w.heap.size + 1, 0, none⟩ = false := (hc2.frozen (by show w.heap.size + 1 < _; omega)).trans x4
    have f5 : W.frozen? ⟨w.heap.size + 2, 0, none⟩ = false := (hc2.frozen (by show w.heap.size + 2 < _; omega)).trans x5
    have HBW := Lib.hid (HW3.out.trans (hc2.mono (by omega)))
    have HALL := Lib.hid hall
    clear hc2 hall x2 x3 x4 x5 c0 c1 c2 c3 c4
    gi_wp2
    have q0 : ((W.setCell ⟨w.heap.size + 1, 0, none⟩ (.bool true)).setCell ⟨w.heap.size + 2, 0, none⟩ (.int .i64 0)).heap[D0]? = some (.deferred (some [])) :=
      ((KeepsOthers.setCell W ⟨w.heap.size + 1, 0, none⟩ (.bool true)).trans (KeepsOthers.setCell _ ⟨w.heap.size + 2, 0, none⟩ (.int .i64 0))).same D0 _ hK rfl
    refine ⟨by simp, .inl ⟨_, _, rfl, run_takeDeferred q0, ?_⟩⟩
    have n0 : ((W.setCell ⟨w.heap.size + 1, 0, none⟩ (.bool true)).setCell ⟨w.heap.size + 2, 0, none⟩ (.int .i64 0)).cell? ⟨w.heap.size + 1, 0, none⟩ = some (.bool true) := by
      rw [World.cell?_setCell_other _ _ _ _ (by simp), setCell_cell_self, f2]; rfl
    have n1 : ((W.setCell ⟨w.heap.size + 1, 0, none⟩ (.bool true)).setCell ⟨w.heap.size + 2, 0, none⟩ (.int .i64 0)).cell? ⟨w.heap.size + 2, 0, none⟩ = some (.int .i64 0) := by
      rw [setCell_cell_self, World.cell?_setCell_other _ _ _ _ (by simp), f3]; rfl
    have k0 := cell_kept n0 (grownBy_putObj' _ D0 (.deferred none)) (fun r e => by cases e; exact ⟨_, q0, rfl⟩)
    have k1 := cell_kept n1 (grownBy_putObj' _ D0 (.deferred none)) (fun r e => by cases e; exact ⟨_, q0, rfl⟩)
    refine ⟨.tuple #[.bool true, .int .i64 0], ?_, ?_⟩
    · simp [results, Try.results31, Try.f31, go_sem, k0, k1]
    · rw [R.out, show keptAll n f T = true from HALL.out]
      exact gives_end rfl (((HBW.out.setCell (p := ⟨w.heap.size + 1, 0, none⟩) (Nat.le_add_right _ _) _).setCell (p := ⟨w.heap.size + 2, 0, none⟩) (Nat.le_add_right _ _) _).grown (grownBy_putObj' _ D0 _) (by simp only [World.size_setCell]; omega) (fun k e => by cases e; omega))
  case hstop =>
    rintro D0 c pre W hD0 ⟨rfl, hka, hb, hs, f2, f3⟩ hK
    gi_wp2
    refine ⟨by simp, .inl ⟨_, _, rfl, run_takeDeferred hK, ?_⟩⟩
    have k0 := cell_kept f2 (grownBy_putObj' _ D0 (.deferred none)) (fun r e => by cases e; exact ⟨_, hK, rfl⟩)
    have k1 := cell_kept f3 (grownBy_putObj' _ D0 (.deferred none)) (fun r e => by cases e; exact ⟨_, hK, rfl⟩)
    refine ⟨.tuple #[.bool false, .int .i64 0], ?_, ?_⟩
    · simp [results, Try.results31, Try.f31, go_sem, k0, k1]
    · rw [R.out, hka]
      exact gives_end rfl (hb.grown (grownBy_putObj' _ D0 _) (by omega) (fun k e => by cases e; omega))

theorem keeps_bad (n : Int) (N : Nat) (p : Option Addr) (cap : Nat) (f : Nat → Int) (q : Option Addr) (M cq : Nat) (T : Nat → Int × Int) (w : World) (hn : fits64 n) (hS : SlP w p N f) (hF : Fits N f) (hN2 : N ≤ 9223372036854775807) (hok : okD n N f = false) :
    Calls Try.prog 31 #[.agg #[.int .i64 n, .slice p N cap], .slice q M cq] w (Gives w (.tuple #[.bool false, .int .i64 8])) := by
  have CK : Hid (∀ w', Below w.heap.size w w' → Calls Try.prog 35 #[.agg #[.int .i64 n, .slice p N cap]] w' (Gives w' (.int .i64 8))) := fun w' hb => by
    have := dbmCheck_any n p N cap f w' hn (hS.below hb) hF hN2
    rwa [hok] at this
  clear hS hF hok
  go_enter Try.func31, Try.ntmps31
  go_wp2_with (first
    | (go_at_call 35; refine (CK.out _ (by (repeat' (first | (with_reducible assumption) | (with_reducible exact Below.refl _ _) | (with_reducible refine below_wov ?_ ?_ _) | (with_reducible refine below_drewN ?_ _) | (with_reducible refine Below.drew ?_) | (with_reducible refine Below.alloc ?_ ?_ _) | (with_reducible refine Below.setCell ?_ ?_ _) | (with_reducible exact Nat.le_refl _) | omega | (simp only [World.size_alloc, World.size_setCell, World.size_drew, Wov_size, World.heap_drewN]; omega))))).mono ?_; rintro e w' ⟨rfl, p1, rfl⟩)
    | fail)
  first
  | (go_returns; done)
  | (go_returns; exact gives_end rfl (by (repeat' (first | (with_reducible assumption) | (with_reducible exact Below.refl _ _) | (with_reducible refine below_wov ?_ ?_ _) | (with_reducible refine below_drewN ?_ _) | (with_reducible refine Below.drew ?_) | (with_reducible refine Below.alloc ?_ ?_ _) | (with_reducible refine Below.setCell ?_ ?_ _) | (with_reducible exact Nat.le_refl _) | omega | (simp only [World.size_alloc, World.size_setCell, World.size_drew, Wov_size, World.heap_drewN]; omega)))))

theorem keeps_bad2 (n : Int) (N : Nat) (p : Option Addr) (cap : Nat) (f : Nat → Int) (q : Option Addr) (M cq : Nat) (T : Nat → Int × Int) (w : World) (hn : fits64 n) (hS : SlP w p N f) (hF : Fits N f) (hN2 : N ≤ 9223372036854775807) (hok : okD n N f = true) (hR : SlR w q M T) (hFR : FitsR M T) (hM2 : M ≤ 4611686018427387903) (har : allRat M T = false) :
    Calls Try.prog 31 #[.agg #[.int .i64 n, .slice p N cap], .slice q M cq] w (Gives w (.tuple #[.bool false, .int .i64 8])) := by
  have CK : Hid (∀ w', Below w.heap.size w w' → Calls Try.prog 35 #[.agg #[.int .i64 n, .slice p N cap]] w' (Gives w' (.int .i64 0))) := fun w' hb => by
    have := dbmCheck_any n p N cap f w' hn (hS.below hb) hF hN2
    rwa [hok] at this
  have CR : Hid (∀ w', Below w.heap.size w w' → Calls Try.prog 89 #[.slice q M cq, .func (.func 90) #[] #[]] w' (Gives w' (.bool true))) := fun w' hb => by
    have := containsR_any q M cq T w' (hR.below hb) hFR hM2
    rwa [har] at this
  clear hR hFR har
  clear hS hF hok
  go_enter Try.func31, Try.ntmps31
  go_wp2_with (first
    | (go_at_call 35; refine (CK.out _ (by (repeat' (first | (with_reducible assumption) | (with_reducible exact Below.refl _ _) | (with_reducible refine below_wov ?_ ?_ _) | (with_reducible refine below_drewN ?_ _) | (with_reducible refine Below.drew ?_) | (with_reducible refine Below.alloc ?_ ?_ _) | (with_reducible refine Below.setCell ?_ ?_ _) | (with_reducible exact Nat.le_refl _) | omega | (simp only [World.size_alloc, World.size_setCell, World.size_drew, Wov_size, World.heap_drewN]; omega))))).mono ?_; rintro e w' ⟨rfl, p1, rfl⟩)
    | (go_at_call 89; refine (CR.out _ (by (repeat' (first | (with_reducible assumption) | (with_reducible exact Below.refl _ _) | (with_reducible refine below_wov ?_ ?_ _) | (with_reducible refine below_drewN ?_ _) | (with_reducible refine Below.drew ?_) | (with_reducible refine Below.alloc ?_ ?_ _) | (with_reducible refine Below.setCell ?_ ?_ _) | (with_reducible exact Nat.le_refl _) | omega | (simp only [World.size_alloc, World.size_setCell, World.size_drew, Wov_size, World.heap_drewN]; omega))))).mono ?_; rintro e w' ⟨rfl, p2, rfl⟩))
  first
  | (go_returns; done)
  | (go_returns; exact gives_end rfl (by (repeat' (first | (with_reducible assumption) | (with_reducible exact Below.refl _ _) | (with_reducible refine below_wov ?_ ?_ _) | (with_reducible refine below_drewN ?_ _) | (with_reducible refine Below.drew ?_) | (with_reducible refine Below.alloc ?_ ?_ _) | (with_reducible refine Below.setCell ?_ ?_ _) | (with_reducible exact Nat.le_refl _) | omega | (simp only [World.size_alloc, World.size_setCell, World.size_drew, Wov_size, World.heap_drewN]; omega)))))

theorem keeps_dim (n : Int) (N : Nat) (p : Option Addr) (cap : Nat) (f : Nat → Int) (q : Option Addr) (M cq : Nat) (T : Nat → Int × Int) (w : World) (hn : fits64 n) (hS : SlP w p N f) (hF : Fits N f) (hN2 : N ≤ 9223372036854775807) (hok : okD n N f = true) (hR : SlR w q M T) (hFR : FitsR M T) (hM2 : M ≤ 4611686018427387903) (har : allRat M T = true) (hM : (M : Int) ≠ n - 1) :
    Calls Try.prog 31 #[.agg #[.int .i64 n, .slice p N cap], .slice q M cq] w (Gives w (.tuple #[.bool false, .int .i64 40])) := by
  have CK : Hid (∀ w', Below w.heap.size w w' → Calls Try.prog 35 #[.agg #[.int .i64 n, .slice p N cap]] w' (Gives w' (.int .i64 0))) := fun w' hb => by
    have := dbmCheck_any n p N cap f w' hn (hS.below hb) hF hN2
    rwa [hok] at this
  have CR : Hid (∀ w', Below w.heap.size w w' → Calls Try.prog 89 #[.slice q M cq, .func (.func 90) #[] #[]] w' (Gives w' (.bool false))) := fun w' hb => by
    have := containsR_any q M cq T w' (hR.below hb) hFR hM2
    rwa [har] at this
  clear hR hFR har
  have hMn : ((M : Int) != n - 1) = true := by rw [bne_iff_ne]; exact hM
  obtain ⟨h1, h2⟩ : 1 ≤ n ∧ n ≤ 4 := by
    obtain ⟨m, rfl, _, _, _⟩ := okD_form hok
    omega
  clear hS hF hok
  go_enter Try.func31, Try.ntmps31
  go_wp2_with (first
    | (go_at_call 35; refine (CK.out _ (by (repeat' (first | (with_reducible assumption) | (with_reducible exact Below.refl _ _) | (with_reducible refine below_wov ?_ ?_ _) | (with_reducible refine below_drewN ?_ _) | (with_reducible refine Below.drew ?_) | (with_reducible refine Below.alloc ?_ ?_ _) | (with_reducible refine Below.setCell ?_ ?_ _) | (with_reducible exact Nat.le_refl _) | omega | (simp only [World.size_alloc, World.size_setCell, World.size_drew, Wov_size, World.heap_drewN]; omega))))).mono ?_; rintro e w' ⟨rfl, p1, rfl⟩)
    | (go_at_call 89; refine (CR.out _ (by (repeat' (first | (with_reducible assumption) | (with_reducible exact Below.refl _ _) | (with_reducible refine below_wov ?_ ?_ _) | (with_reducible refine below_drewN ?_ _) | (with_reducible refine Below.drew ?_) | (with_reducible refine Below.alloc ?_ ?_ _) | (with_reducible refine Below.setCell ?_ ?_ _) | (with_reducible exact Nat.le_refl _) | omega | (simp only [World.size_alloc, World.size_setCell, World.size_drew, Wov_size, World.heap_drewN]; omega))))).mono ?_; rintro e w' ⟨rfl, p2, rfl⟩))
  first
  | (go_returns; done)
  | (go_returns; exact gives_end rfl (by (repeat' (first | (with_reducible assumption) | (with_reducible exact Below.refl _ _) | (with_reducible refine below_wov ?_ ?_ _) | (with_reducible refine below_drewN ?_ _) | (with_reducible refine Below.drew ?_) | (with_reducible refine Below.alloc ?_ ?_ _) | (with_reducible refine Below.setCell ?_ ?_ _) | (with_reducible exact Nat.le_refl _) | omega | (simp only [World.size_alloc, World.size_setCell, World.size_drew, Wov_size, World.heap_drewN]; omega)))))

/-- THE CONTRACT of Keeps. -/
theorem keepsD_any (n : Int) (N : Nat) (p : Option Addr) (cap : Nat) (f : Nat → Int) (q : Option Addr) (M cq : Nat) (T : Nat → Int × Int) (w : World) (hn : fits64 n) (hS : SlP w p N f) (hF : Fits N f) (hN2 : N ≤ 9223372036854775807) (hR : SlR w q M T) (hFR : FitsR M T) (hM2 : M ≤ 4611686018427387903) :
    Calls Try.prog 31 #[.agg #[.int .i64 n, .slice p N cap], .slice q M cq] w (Gives w (bpair (keepsD n N f M T))) := by
  cases hok : okD n N f
  · have : keepsD n N f M T = (false, 8) := by unfold keepsD; rw [hok]; rfl
    rw [this]
    exact keeps_bad n N p cap f q M cq T w hn hS hF hN2 hok
  · cases har : allRat M T
    · have : keepsD n N f M T = (false, 8) := by unfold keepsD; rw [hok, har]; rfl
      rw [this]
      exact keeps_bad2 n N p cap f q M cq T w hn hS hF hN2 hok hR hFR hM2 har
    · by_cases hM : (M : Int) = n - 1
      · obtain ⟨m, rfl, hNm, h1, h2⟩ := okD_form hok
        exact callsIn_wide.1 (keeps_in m N p cap f q M cq T w hNm (by omega) h2 hS hF hok hR hFR har)
      · have : keepsD n N f M T = (false, 40) := by unfold keepsD; rw [hok, har]; simp [hM]
        rw [this]
        exact keeps_dim n N p cap f q M cq T w hn hS hF hN2 hok hR hFR hM2 har hM
#print axioms keepsD_any
end Go.Proofs.Ytlcbpckinjkfeaa
