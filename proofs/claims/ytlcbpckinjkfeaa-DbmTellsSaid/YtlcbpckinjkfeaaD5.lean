/- Contract of (*matrix).through. No condition but that the count of clocks is at most 4 and numbers are of their kind. -/
import Derived.Test.YtlcbpckinjkfeaaD4
namespace Go.Proofs.Ytlcbpckinjkfeaa
set_option linter.unusedSimpArgs false
set_option linter.unusedVariables false
open Go Go.RowKit Go.Shelf
attribute [local go_sem] Oper.semAt_some Nat.add_assoc Nat.add_lt_add_iff_left lit_lt_add

theorem at_wov {M B n N cap : Nat} {W : World} (hn : n ≤ 4) (hN2 : N ≤ 9223372036854775807) (hM : M < W.heap.size)
    (c0 : W.cell? ⟨M, 0, none⟩ = some (.int .i64 n)) (c1 : W.cell? ⟨M, 1, none⟩ = some (.slice (some ⟨B, 0, none⟩) N cap)) (i j : Nat) (hi : i ≤ 4) (hj : j ≤ 4) (hN : i * n + j < N) (p : Gr) :
    Calls Try.prog 85 #[.pointer (some ⟨M, 0, none⟩), .int .i64 i, .int .i64 j] (Wov W p) fun e w' => e = .returned (.pointer (some ⟨B, i * n + j, none⟩)) ∧ ∃ q, w' = Wov W q :=
  (at_any M B n i j N cap (Wov W p) hn hi hj hN hN2 (by rw [Wov_cell_past _ _ _ _ hM]; exact c0) (by rw [Wov_cell_past _ _ _ _ hM]; exact c1)).mono fun e w' ⟨he, m, hm⟩ => ⟨he, _, hm.trans (Wov_drewN _ _ _)⟩
theorem at_wov' {M B n N cap : Nat} {W : World} (hn : n ≤ 4) (hN2 : N ≤ 9223372036854775807) (hM : M < W.heap.size)
    (c0 : W.cell? ⟨M, 0, none⟩ = some (.int .i64 n)) (c1 : W.cell? ⟨M, 1, none⟩ = some (.slice (some ⟨B, 0, none⟩) N cap)) (i j : Nat) (hi : i ≤ 4) (hj : j ≤ 4) (hN : i * n + j < N) :
    Calls Try.prog 85 #[.pointer (some ⟨M, 0, none⟩), .int .i64 i, .int .i64 j] W fun e w' => e = .returned (.pointer (some ⟨B, i * n + j, none⟩)) ∧ ∃ m, w' = W.drewN m :=
  at_any M B n i j N cap W hn hi hj hN hN2 c0 c1

/-- A loop over pairs of clocks, at the wide fence. -/
theorem wpIn_pairs {n : Nat} (hn0 : 1 ≤ n) (hn : n ≤ 4) {g : Operand} {ps : Array Tmp} {assign body : Code} {Q : Exit → Act → World → Prop} {a : Act} {w : World} {Bx : Nat} (hps : ps.size = 2)
    (hg : a.eval g = .func (.func 144) #[] #[.pointer (some ⟨Bx, 0, none⟩)]) (hBx : Bx < w.heap.size) (hc : w.cell? ⟨Bx, 0, none⟩ = some (.int .i64 n))
    (I : List (PairC n) → World → Prop) (Ix : Code → List (PairC n) → World → Prop) (hI : OwnFrom w.heap.size I) (hIx : ∀ c, OwnFrom w.heap.size (Ix c)) (h0 : I [] w) (a₁ : PairC n → Act)
    (hassign : ∀ (l : Nat) (x : PairC n) (W : World) (K : Act → World → Prop), K (a₁ x) W →
      assign.wpIn (Fence.wide.inRound l) 1 Try.prog (Exit.then K (fun _ _ _ => False)) { tmps := (ps.zip (pairE x)).foldl (fun t (p, v) => t.setIfInBounds p v) a.tmps, defers := [] } W)
    (hbody : ∀ (l : Nat) (pre : List (PairC n)) (x : PairC n) (W : World), I pre W → pre.length < n * n → body.wpIn (Fence.wide.inRound l) 1 Try.prog (ownPostK (KeepsBox Bx (.int .i64 n)) I Ix (pre ++ [x]) W) (a₁ x) W)
    (hdone : ∀ (D : Nat) (W : World), w.heap.size ≤ D → I (pairsAll n) W → W.heap[D]? = some (.deferred (some [])) → Q .normal { a with defers := { target := .collected D, args := #[] } :: a.defers } W)
    (hstop : ∀ (D : Nat) (c : Code) (pre : List (PairC n)) (W : World), w.heap.size ≤ D → Ix c pre W → W.heap[D]? = some (.deferred (some [])) → c.wpIn Fence.wide 3 Try.prog Q { a with defers := { target := .collected D, args := #[] } :: a.defers } W) :
    (Code.rangeFunc g ps assign body).wpIn Fence.wide 3 Try.prog Q a w :=
  wpIn_rangeFunc_ownF rfl (by omega) hg trivial (enters_of Try.func144 (by kernel_rfl) rfl) (pairs1_stops n hn0 hn 2 Bx w hBx hc) (fun h k => keepsBox_t h k) (fun W l o o' _ h ho _ => keepsBox_b W l o o' h ho) (Below.refl _ _) (fun x => hps.symm ▸ rfl)
    I Ix hI hIx h0 a₁ hassign hbody (fun D xs W hD hx hi hk => by subst hx; exact hdone D W hD hi hk) (fun D c pre W hD _ hi hk => hstop D c pre W hD hi hk)

theorem keepsOthers_wov (W : World) (p : Gr) : KeepsOthers W (Wov W p) := KeepsOthers.of_grownBy (row := none) ⟨rfl, rfl, rfl, by simp [Wov], fun k hk _ => Wov_heap W p k hk⟩ (fun j o e => by cases e)

theorem Chg.put {w W : World} {B : Nat} (h : Chg w B W) {D : Nat} (hD : w.heap.size ≤ D) (o : Obj) : Chg w B (W.putObj D o) :=
  h.own (grownBy_putObj' W D o) (n0 := w.heap.size) (fun r e => by cases e; exact hD) (Nat.le_refl _)
theorem HoldsI.put_drewN {W : World} {B N : Nat} {f : Nat → Int} (h : HoldsI W B N f) {D : Nat} (hD : W.heap[D]? = some (.deferred (some []))) (m : Nat) (o' : Obj) : HoldsI ((W.drewN m).putObj D o') B N f :=
  (h.of_block (W' := W.drewN m) rfl).own (grownBy_putObj' _ D o') (fun r e => by cases e; exact ⟨_, hD, rfl⟩)
theorem diagB_f {n t : Nat} {g : Nat → Int} (h : t < n) (hv : g (t * n + t) < 1) : diagB n g = false := by
  unfold diagB
  rw [List.all_eq_false]
  exact ⟨t, by simpa using h, by simp; omega⟩
theorem diagB_t {n : Nat} {g : Nat → Int} (h : ∀ x, x < n → 1 ≤ g (x * n + x)) : diagB n g = true := by
  unfold diagB
  rw [List.all_eq_true]
  intro x hx
  simpa using h x (by simpa using hx)
/-- What holds between two rounds of through. -/
structure ThI (w w3 : World) (M B n k : Nat) (f : Nat → Int) (pre : List (PairC n)) (W : World) : Prop where
  chg : Chg w3 B W
  holds : HoldsI W B (n * n) (pre.foldl (stepP n k) f)

theorem thI_own (w w3 : World) (M B n k : Nat) (f : Nat → Int) : OwnFrom w3.heap.size (ThI w w3 M B n k f) := fun s A B' row hs hg hr =>
  ⟨hs.chg.own hg (fun r e => (hr r e).1) (Nat.le_refl _), hs.holds.own hg (fun r e => (hr r e).2)⟩

set_option maxRecDepth 100000 in
set_option maxHeartbeats 4000000 in
theorem through_in (M B n k cap : Nat) (f : Nat → Int) (w : World) (hn0 : 1 ≤ n) (hn : n ≤ 4) (hk : k < n) (hM : M < w.heap.size) (hMB : M ≠ B) (hB : B < w.heap.size)
    (c0 : w.cell? ⟨M, 0, none⟩ = some (.int .i64 n)) (c1 : w.cell? ⟨M, 1, none⟩ = some (.slice (some ⟨B, 0, none⟩) (n * n) cap)) (hH : HoldsI w B (n * n) f) (hF : Fits (n * n) f) :
    CallsIn Fence.wide 3 Try.prog 86 #[.pointer (some ⟨M, 0, none⟩), .int .i64 k] w fun e W' =>
      e = .returned (.bool (diagB n ((pairsAll n).foldl (stepP n k) f))) ∧ Chg w B W' ∧ HoldsI W' B (n * n) ((pairsAll n).foldl (stepP n k) f) := by
  refine callsIn_of_wp_marks Try.func86 rfl trivial ?_ rfl
  simp only [Try.ntmps86, List.size_toArray, List.length_cons, List.length_nil, Nat.reduceAdd, Nat.reduceSub, Array.replicate_succ, Array.replicate_zero, List.push_toArray, List.append_toArray, List.nil_append, List.cons_append]
  have hq0 : n * n ≤ 4 * 4 := Nat.mul_le_mul hn hn
  gi_wp2_with (refine ⟨trivial, ?_⟩; gi_at_call 91; refine (callsIn_wide.2 (pairs_any _ _)).mono ?_; rintro e w' ⟨rfl, rfl⟩)
  obtain ⟨w3, hw3⟩ : ∃ w3, ((w.alloc (.cells #[.pointer (some ⟨M, 0, none⟩)] 121)).alloc (.cells #[.int .i64 k] 3)).alloc (.cells #[.int .i64 n] 3) = w3 := ⟨_, rfl⟩
  have b0 : w3.cell? ⟨w.heap.size, 0, none⟩ = some (.pointer (some ⟨M, 0, none⟩)) := by rw [← hw3]; simp [go_sem]
  have b1 : w3.cell? ⟨w.heap.size + 1, 0, none⟩ = some (.int .i64 k) := by rw [← hw3]; simp [go_sem]
  have b2 : w3.cell? ⟨w.heap.size + 2, 0, none⟩ = some (.int .i64 n) := by rw [← hw3]; simp [go_sem]
  have hz : w3.heap.size = w.heap.size + 3 := by rw [← hw3]; simp
  have hch : Chg w B w3 := by rw [← hw3]; exact ((Chg.alloc w B _).trans (Chg.alloc _ B _)).trans (Chg.alloc _ B _)
  have d0 : w3.cell? ⟨M, 0, none⟩ = some (.int .i64 n) := (hch.cell hM hMB).trans c0
  have d1 : w3.cell? ⟨M, 1, none⟩ = some (.slice (some ⟨B, 0, none⟩) (n * n) cap) := (hch.cell hM hMB).trans c1
  have hH3 : HoldsI w3 B (n * n) f := by
    rw [← hw3]
    exact hH.below ((((Below.refl _ w).alloc (Nat.le_refl _) _).alloc (by simp) _).alloc (by simp; omega) _) hB
  rw [hw3]
  apply wpIn_pairs hn0 hn (Bx := w.heap.size + 2) rfl rfl (by omega) b2 (ThI w w3 M B n k f) (fun _ _ _ => False) (thI_own w w3 M B n k f) (fun _ _ _ _ _ h _ _ => h) ⟨Chg.refl _ _, hH3⟩
  case hassign =>
    intro l x W K hK
    simp only [pairE]
    gi_wp2
    exact hK
  case hbody =>
    rintro l pre ⟨⟨i, j⟩, hi, hj⟩ W ⟨hc2, hW⟩ _
    have e0 : W.cell? ⟨w.heap.size, 0, none⟩ = some (.pointer (some ⟨M, 0, none⟩)) := (hc2.cell (by omega) (by omega)).trans b0
    have e1 : W.cell? ⟨w.heap.size + 1, 0, none⟩ = some (.int .i64 k) := (hc2.cell (by omega) (by omega)).trans b1
    have e2 : W.cell? ⟨w.heap.size + 2, 0, none⟩ = some (.int .i64 n) := (hc2.cell (by omega) (by omega)).trans b2
    have m0 : W.cell? ⟨M, 0, none⟩ = some (.int .i64 n) := (hc2.cell (by omega) hMB).trans d0
    have m1 : W.cell? ⟨M, 1, none⟩ = some (.slice (some ⟨B, 0, none⟩) (n * n) cap) := (hc2.cell (by omega) hMB).trans d1
    have hs := hc2.size
    have z0 : w.heap.size < W.heap.size := by omega
    have z1 : w.heap.size + 1 < W.heap.size := by omega
    have z2 : w.heap.size + 2 < W.heap.size := by omega
    have zM : M < W.heap.size := by omega
    have zB : B < W.heap.size := by omega
    have FF : Fits (n * n) (pre.foldl (stepP n k) f) := by
      have : ∀ (l : List (PairC n)) g, Fits (n * n) g → Fits (n * n) (l.foldl (stepP n k) g) := by
        intro l
        induction l with
        | nil => exact fun g h => h
        | cons x l ih => exact fun g h => ih _ (h.step x)
      exact this pre f hF
    have hfold : (pre ++ [(⟨(i, j), hi, hj⟩ : PairC n)]).foldl (stepP n k) f = stepP n k (pre.foldl (stepP n k) f) ⟨(i, j), hi, hj⟩ := by rw [List.foldl_append]; rfl
    obtain ⟨g, hg⟩ : ∃ g, g = pre.foldl (stepP n k) f := ⟨_, rfl⟩
    rw [← hg] at hW FF hfold
    have ca := (hW (i * n + k) (place_lt hi hk)).1
    have cb := (hW (k * n + j) (place_lt hk hj)).1
    have cc := (hW (i * n + j) (place_lt hi hj)).1
    have cz := (hW (i * n + j) (place_lt hi hj)).2
    have AT := Lib.hid (fun i j hi hj hN p => at_wov (M := M) (B := B) (N := n * n) (cap := cap) (W := W) hn (by omega) zM m0 m1 i j hi hj hN p)
    have ADD := Lib.hid (add_any (g (i * n + k)) (g (k * n + j)) (FF _ (place_lt hi hk)).1 (FF _ (place_lt hi hk)).2 (FF _ (place_lt hk hj)).1 (FF _ (place_lt hk hj)).2)
    have p1 := place_lt hi hk
    have p2 := place_lt hk hj
    have p3 := place_lt hi hj
    have HX : Hid (stepP n k g ⟨(i, j), hi, hj⟩ = if (addR (g (i * n + k)) (g (k * n + j))).1 < g (i * n + j) then upd g (i * n + j) (addR (g (i * n + k)) (g (k * n + j))).1 else g) := rfl
    have HFO := Lib.hid hfold
    have HG := Lib.hid hg
    clear hfold hg
    obtain ⟨⟨s, se⟩, hs2⟩ : ∃ r, r = addR (g (i * n + k)) (g (k * n + j)) := ⟨_, rfl⟩
    rw [← hs2] at ADD HX
    obtain ⟨va, hva⟩ : ∃ v, v = g (i * n + k) := ⟨_, rfl⟩
    obtain ⟨vb, hvb⟩ : ∃ v, v = g (k * n + j) := ⟨_, rfl⟩
    obtain ⟨vc, hvc⟩ : ∃ v, v = g (i * n + j) := ⟨_, rfl⟩
    rw [← hva] at ca ADD
    rw [← hvb] at cb ADD
    rw [← hvc] at cc HX
    simp only [pair2] at ADD HX
    clear hs2 hva hvb hvc b0 b1 b2 d0 d1 c0 c1 hH hH3 hw3 hch hF
    gi_wp2
    refine wpIn_region_wov (by kernel_rfl) (by kernel_rfl) (by kernel_rfl) ?_
    repeat (go_big_quiet_step (first | (go_at_call 85; exact AT.out _ _ (by omega) (by omega) (by assumption) _) | (go_at_call 140; exact ADD.out.at _ _)))
    refine wpQuiet_nil ?_
    rintro _ ⟨pq, rfl⟩
    have y1 : (Wov W pq).cell? ⟨B, i * n + j, none⟩ = some (.int .i64 vc) := by rw [Wov_cell_past _ _ _ _ zB]; exact cc
    have hKO : ∀ p, KeepsOthers W (Wov W p) := fun p => keepsOthers_wov W p
    have HKO := Lib.hid hKO
    clear hKO
    gi_wp2_with (refine ⟨trivial, ?_⟩; gi_at_call 85; refine (CallsIn.inRound l (callsIn_wide.2 (AT.out _ _ (by omega) (by omega) (by assumption) _))).mono ?_; rintro e w' ⟨rfl, q, rfl⟩)
    · have hlt : s < vc := by assumption
      have hHq : HoldsI (Wov W q) B (n * n) g := hW.wov zB q
      refine ⟨(HKO.out q).trans (KeepsOthers.setCell _ _ _), fun _ => ?_, ?_, ?_⟩
      · rw [World.cell?_setCell_other _ _ _ _ (fun e' => by have e2 := congrArg Addr.block e'; simp at e2; omega), Wov_cell_past _ _ _ _ z2]; exact e2
      · exact (hc2.trans (Chg.wov W B q)).trans (Chg.set _ _ _ _)
      · rw [HFO.out, HX.out, if_pos hlt]; exact hHq.set p3 s
    · have hge : ¬ s < vc := by omega
      have hHq : HoldsI (Wov W q) B (n * n) g := hW.wov zB q
      refine ⟨HKO.out q, fun _ => ?_, ?_, ?_⟩
      · rw [Wov_cell_past _ _ _ _ z2]; exact e2
      · exact hc2.trans (Chg.wov W B q)
      · rw [HFO.out, HX.out, if_neg hge]; exact hHq
  case hdone =>
    rintro D W hD ⟨hc2, hW⟩ hK
    have e0 : W.cell? ⟨w.heap.size, 0, none⟩ = some (.pointer (some ⟨M, 0, none⟩)) := (hc2.cell (by omega) (by omega)).trans b0
    have m0 : W.cell? ⟨M, 0, none⟩ = some (.int .i64 n) := (hc2.cell (by omega) hMB).trans d0
    have m1 : W.cell? ⟨M, 1, none⟩ = some (.slice (some ⟨B, 0, none⟩) (n * n) cap) := (hc2.cell (by omega) hMB).trans d1
    obtain ⟨g, hg⟩ : ∃ g, g = (pairsAll n).foldl (stepP n k) f := ⟨_, rfl⟩
    rw [← hg] at hW
    have HG := Lib.hid hg
    have hcw : Chg w B W := hch.trans hc2
    clear hg b0 b1 b2 d0 d1 c0 c1 hH hH3 hw3 hch hF hc2
    gi_wp2
    gi_loopw [9, 53, 55, 56, 57, 58, 59, 60, 61, 62, 63] (fun _ i _ _ _ _ _ _ _ _ _ wr => ∃ t : Nat, t ≤ n ∧ i = .int .i64 t ∧ Hid (∀ x, x < t → 1 ≤ g (x * n + x)) ∧ ∃ m, wr = W.drewN m)
      (fun _ i _ _ _ _ _ _ _ _ _ _ => n - (intOf i).toNat)
    case atStart => exact ⟨0, Nat.zero_le _, rfl, (fun x hx => by omega), 0, rfl⟩
    case round =>
      obtain ⟨t, ht, rfl, hpre, m, rfl⟩ := hrel
      by_cases hlt : t < n
      · have ct := (hW (t * n + t) (place_lt hlt hlt)).1
        have pt := place_lt hlt hlt
        obtain ⟨v, hv⟩ : ∃ v, v = g (t * n + t) := ⟨_, rfl⟩
        rw [← hv] at ct
        have HV := Lib.hid hv
        clear hv
        gi_wp2_with (refine ⟨trivial, ?_⟩; gi_at_call 85; refine (callsIn_wide.2 (at_any M B n t t (n * n) cap _ hn (by omega) (by omega) pt (by omega) (by rw [World.cell?_drewN]; exact m0) (by rw [World.cell?_drewN]; exact m1))).mono ?_; rintro e w' ⟨rfl, q, rfl⟩)
        · have hv1 : v < 1 := by assumption
          refine ⟨by simp, .inl ⟨_, _, rfl, run_takeDeferred (show (W.drewN (m + q)).heap[D]? = _ from hK), ?_⟩⟩
          refine ⟨_, results_tmp rfl _ _ _, ?_, ?_, ?_⟩
          · rw [← HG.out, diagB_f hlt (by rw [← HV.out]; exact hv1)]; rfl
          · exact (hcw.trans (Chg.drewN _ _ _)).put (by omega) _
          · rw [← HG.out]; exact hW.put_drewN hK _ _
        · have hv1 : 1 ≤ v := by omega
          have hpre' : Hid (∀ x, x < t + 1 → 1 ≤ g (x * n + x)) := fun x hx => by
            by_cases e : x = t
            · subst e; rw [← HV.out]; exact hv1
            · exact hpre.out x (by omega)
          refine ⟨⟨t + 1, hlt, by go_num, hpre', _, rfl⟩, by simp [intOf]; omega⟩
      · have e : t = n := by omega
        subst e
        gi_wp2
        refine ⟨by simp, .inl ⟨_, _, rfl, run_takeDeferred (show (W.drewN m).heap[D]? = _ from hK), ?_⟩⟩
        refine ⟨_, results_tmp rfl _ _ _, ?_, ?_, ?_⟩
        · rw [← HG.out, diagB_t hpre.out]; rfl
        · exact (hcw.trans (Chg.drewN _ _ _)).put (by omega) _
        · rw [← HG.out]; exact hW.put_drewN hK _ _
  case hstop =>
    rintro D c pre W _ h _
    exact h.elim

theorem through_any (M B n k cap : Nat) (f : Nat → Int) (w : World) (hn0 : 1 ≤ n) (hn : n ≤ 4) (hk : k < n) (hM : M < w.heap.size) (hMB : M ≠ B) (hB : B < w.heap.size)
    (c0 : w.cell? ⟨M, 0, none⟩ = some (.int .i64 n)) (c1 : w.cell? ⟨M, 1, none⟩ = some (.slice (some ⟨B, 0, none⟩) (n * n) cap)) (hH : HoldsI w B (n * n) f) (hF : Fits (n * n) f) :
    Calls Try.prog 86 #[.pointer (some ⟨M, 0, none⟩), .int .i64 k] w fun e W' =>
      e = .returned (.bool (diagB n ((pairsAll n).foldl (stepP n k) f))) ∧ Chg w B W' ∧ HoldsI W' B (n * n) ((pairsAll n).foldl (stepP n k) f) :=
  callsIn_wide.1 (through_in M B n k cap f w hn0 hn hk hM hMB hB c0 c1 hH hF)
#print axioms through_any
end Go.Proofs.Ytlcbpckinjkfeaa
