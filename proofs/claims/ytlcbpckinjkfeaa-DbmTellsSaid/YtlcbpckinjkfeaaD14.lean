/- Contracts of the document's All and Top. No condition but that the number is of its kind. -/
import Derived.Test.YtlcbpckinjkfeaaD11
namespace Go.Proofs.Ytlcbpckinjkfeaa
set_option linter.unusedSimpArgs false
set_option linter.unusedVariables false
open Go Go.RowKit Go.Shelf
attribute [local go_sem] Nat.add_assoc Nat.add_lt_add_iff_left lit_lt_add

theorem topF_at {n i j : Nat} (hj : j < n) : topF n (i * n + j) = if i = j then 1 else noneB := by
  have hn : 0 < n := by omega
  unfold topF
  rw [Nat.mul_comm, Nat.mul_add_div hn, Nat.div_eq_of_lt hj, Nat.mul_add_mod, Nat.mod_eq_of_lt hj, Nat.add_zero]
def allPost (w : World) (n : Nat) (e : Ending) (W : World) : Prop := ∃ B cap, e = .returned (.agg #[.int .i64 n, .slice (some ⟨B, 0, none⟩) (n * n) cap]) ∧ w.heap.size ≤ B ∧ B < W.heap.size ∧ HoldsI W B (n * n) (topF n) ∧ ∃ q, W = Wov w q

set_option maxRecDepth 10000 in
set_option maxHeartbeats 4000000 in
theorem all_any (n : Nat) (w : World) (hn0 : 1 ≤ n) (hn : n ≤ 4) : Calls Try.prog 151 #[.int .i64 n] w (allPost w n) := by
  have hq0 : n * n ≤ 4 * 4 := Nat.mul_le_mul hn hn
  have hq1 : 1 * 1 ≤ n * n := Nat.mul_le_mul hn0 hn0
  obtain ⟨i0, hi, hz0, hz1, hz2⟩ := info_parts infoB
  have HI := Lib.hid hi
  have HZ := Lib.hid hz0
  have H1 := Lib.hid hz1
  have H2 := Lib.hid hz2
  clear hi hz0 hz1 hz2
  go_enter Try.func151, Try.ntmps151
  go_wp2
  refine wp_world (fun W => TopI w n w.heap.size (w.heap.size + 1) (w.heap.size + 2) [] W) ⟨by (repeat' (first | (with_reducible assumption) | (with_reducible exact Below.refl _ _) | (with_reducible refine below_wov ?_ ?_ _) | (with_reducible refine below_drewN ?_ _) | (with_reducible refine Below.drew ?_) | (with_reducible refine Below.alloc ?_ ?_ _) | (with_reducible refine Below.setCell ?_ ?_ _) | (with_reducible exact Nat.le_refl _) | omega | (simp only [World.size_alloc, World.size_setCell, World.size_drew, Wov_size, World.heap_drewN]; omega))), by simp, by simp [go_sem], by simp [go_sem], by simp [go_sem], by simp [go_sem], by simp [go_sem], by simp [go_sem], .slice none 0 0, by simp [go_sem], World.ownsRow_nil _ _ _ _⟩ ?_
  intro w3 hT
  go_loopw [4] (fun i wr => ∃ t : Nat, t ≤ n ∧ i = .int .i64 t ∧ Hid (TopI w n w.heap.size (w.heap.size + 1) (w.heap.size + 2) (cellsI (t * n) (topF n)) wr))
    (fun i _ => n - (intOf i).toNat)
  case atStart => exact ⟨0, Nat.zero_le _, rfl, by rw [Nat.zero_mul]; exact hT⟩
  case round =>
    obtain ⟨t, ht, rfl, hI⟩ := hrel
    obtain ⟨wo, rfl⟩ : ∃ wo : World, wo = wr := ⟨_, rfl⟩
    clear hT
    by_cases hlt : t < n
    · go_wp2
      go_loopw [5] (fun j wr => ∃ s : Nat, s ≤ n ∧ j = .int .i64 s ∧ Hid (TopI w n w.heap.size (w.heap.size + 1) (w.heap.size + 2) (cellsI (t * n + s) (topF n)) wr))
        (fun j _ => n - (intOf j).toNat)
      case atStart => exact ⟨0, Nat.zero_le _, rfl, hI⟩
      case round =>
        clear hI
        obtain ⟨s, hs, rfl, hI⟩ := hrel
        by_cases hls : s < n
        · obtain ⟨v, hv, hrow⟩ := hI.out.row
          have hfd := hI.out.fd
          have hsz := hI.out.size
          have hlt2 := place_lt hlt hls
          rw [cellsI_len] at hrow
          have HR := Lib.hid hrow
          clear hrow
          have step : Hid (∀ (u : Int), u = topF n (t * n + s) → ∀ v' w1, w1.ownsRow (w.heap.size + 2) 24 1 v' (t * n + s + 1) (cellsI (t * n + s) (topF n) ++ [.int .i64 u]) → (wr.alloc (.cells #[.int .i64 u] 24)).grownBy w1 v.ownBlock →
              (w1.cell? ⟨w.heap.size + 1, 1, none⟩ = some v ∧ w1.frozen? ⟨w.heap.size + 1, 1, none⟩ = false) ∧
              TopI w n w.heap.size (w.heap.size + 1) (w.heap.size + 2) (cellsI (t * n + (s + 1)) (topF n)) (w1.setCell ⟨w.heap.size + 1, 1, none⟩ v')) := by
            intro u hu v' w1 hown hgrow
            have hb := app_below HR.out hsz hgrow
            have hst := hI.out.step (Nat.le_refl _) (by omega) (by omega) hv (by rw [cellsI_len]; exact HR.out) (by rw [cellsI_len]; exact hown) hgrow
            refine ⟨⟨(hb.cell (p := ⟨w.heap.size + 1, 1, none⟩) (by simp)).trans hv, (hb.frozen (p := ⟨w.heap.size + 1, 1, none⟩) (by simp)).trans hfd⟩, ?_⟩
            rw [← Nat.add_assoc, cellsI_succ, ← hu]; exact hst
          by_cases hij : t = s
          · have hb1 : ((t : Int) == (s : Int)) = true := by rw [beq_iff_eq]; omega
            have htv : Hid ((1 : Int) = topF n (t * n + s)) := by show _ = _; rw [topF_at hls, if_pos hij]
            have HIJ := Lib.hid hij
            clear hij
            go_wp2_with (at_builtin; refine wpList_append_own _ rfl _ _ 37 rfl (w.heap.size + 2) 24 i0 (.int .i64 0) 1 8 Try.underlying37 HI.out HZ.out H1.out H2.out rfl (by decide) _ _ _ rfl (HR.out.alloc _) ⟨wr.heap.size, 0, none⟩ 1 1 [.int .i64 1] rfl rfl (cell_one_new _ _ _) (by simp [Value.oneCell']) (by unfold maxLen; omega) (by omega) (by simp; omega) ?_; intro v' w1 hown' hgrow _; obtain ⟨g', cap', rfl⟩ := ownsRow_succ hown'; obtain ⟨⟨k1, k2⟩, k3⟩ := step.out 1 htv.out _ w1 hown' hgrow; clear hown' hgrow)
            go_roundw
            case rel => exact ⟨s + 1, hls, by go_num, k3⟩
            case measure => simp [intOf]; omega
          · have hb1 : ((t : Int) == (s : Int)) = false := by rw [beq_eq_false_iff_ne]; omega
            have htv : Hid ((9223372036854775807 : Int) = topF n (t * n + s)) := by show _ = _; rw [topF_at hls, if_neg hij]; rfl
            have HIJ := Lib.hid hij
            clear hij
            go_wp2_with (at_builtin; refine wpList_append_own _ rfl _ _ 37 rfl (w.heap.size + 2) 24 i0 (.int .i64 0) 1 8 Try.underlying37 HI.out HZ.out H1.out H2.out rfl (by decide) _ _ _ rfl (HR.out.alloc _) ⟨wr.heap.size, 0, none⟩ 1 1 [.int .i64 9223372036854775807] rfl rfl (cell_one_new _ _ _) (by simp [Value.oneCell']) (by unfold maxLen; omega) (by omega) (by simp; omega) ?_; intro v' w1 hown' hgrow _; obtain ⟨g', cap', rfl⟩ := ownsRow_succ hown'; obtain ⟨⟨k1, k2⟩, k3⟩ := step.out 9223372036854775807 htv.out _ w1 hown' hgrow; clear hown' hgrow)
            go_roundw
            case rel => exact ⟨s + 1, hls, by go_num, k3⟩
            case measure => simp [intOf]; omega
        · have e : s = n := by omega
          subst e
          have hI2 : Hid (TopI w s w.heap.size (w.heap.size + 1) (w.heap.size + 2) (cellsI ((t + 1) * s) (topF s)) wr) := by
            have := hI.out
            show TopI _ _ _ _ _ _ _
            rw [show (t + 1) * s = t * s + s by rw [Nat.add_mul, Nat.one_mul]]
            exact this
          clear hI
          go_wp2
          go_roundw
          case rel => exact ⟨t + 1, hlt, by go_num, hI2⟩
          case measure => simp [intOf]; omega
    · have e : t = n := by omega
      subst e
      obtain ⟨v, hv, hrow⟩ := hI.out.row
      rw [cellsI_len] at hrow
      obtain ⟨B, cap, rfl, hB1, hB2, hH⟩ := holds_of_row (by omega) hrow
      have d0 := hI.out.d0
      have r0 := hI.out.res0
      have r1 := hI.out.res1
      have s0 := hI.out.fr0
      have s1 := hI.out.fr1
      have hbl := hI.out.below
      have HH := Lib.hid hH
      clear hI hrow hH
      go_wp2
      refine bodyPost_ret (by simp [results, Try.results151, go_sem, r0, r1]; try rfl) rfl ?_
      refine ⟨B, cap, rfl, by omega, by simp [World.setCell]; omega, ?_, Wov_of_below ((hbl.setCell (p := ⟨w.heap.size, 0, none⟩) (Nat.le_refl _) _).setCell (p := ⟨w.heap.size, 1, none⟩) (Nat.le_refl _) _)⟩
      exact HH.out.of_block (((Chg.set wo w.heap.size 0 _).trans (Chg.set _ w.heap.size 1 _)).block B hB2 (by omega))

theorem slp_of {W : World} {B N : Nat} {f : Nat → Int} (h : HoldsI W B N f) (hB : B < W.heap.size) : SlP W (some ⟨B, 0, none⟩) N f := .inr ⟨B, 0, rfl, hB, fun x hx => by rw [Nat.zero_add]; exact (h x hx).1⟩
theorem slp_nil (W : World) (f : Nat → Int) : SlP W none 0 f := .inl rfl
theorem slp_later {W V : World} {B N : Nat} {f : Nat → Int} (h : HoldsI W B N f) (hB : B < W.heap.size) (hb : Below W.heap.size W V) : SlP V (some ⟨B, 0, none⟩) N f := slp_of (h.below hb hB) (Nat.lt_of_lt_of_le hB hb.size)
theorem sameB_refl (n : Int) (N : Nat) (f : Nat → Int) : sameB n N f n N f = true := by simp [sameB, eqB]
end Go.Proofs.Ytlcbpckinjkfeaa
