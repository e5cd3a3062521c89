/- Contracts of dbm.Check, slices.Clone, dbm.Twin: no condition but that numbers are of their kind. -/
import Derived.Test.YtlcbpckinjkfeaaD6
import Derived.Maps.AppendAt
import Derived.WalkSpells
namespace Go.Proofs.Ytlcbpckinjkfeaa
set_option linter.unusedSimpArgs false
set_option linter.unusedVariables false
open Go Go.RowKit Go.Shelf
attribute [local go_sem] Nat.add_assoc Nat.add_lt_add_iff_left lit_lt_add

theorem SlP.below {W W' : World} {p : Option Addr} {N : Nat} {f : Nat → Int} (h : SlP W p N f) (hb : Below W.heap.size W W') : SlP W' p N f := by
  obtain ⟨q, rfl⟩ := Wov_of_below hb
  exact h.wov q
/-- May a matrix be: n clocks, N bounds f? -/
def okD (n : Int) (N : Nat) (f : Nat → Int) : Bool := decide (1 ≤ n) && (decide (n ≤ 4) && (decide ((N : Int) = n * n) && allMay N f))

set_option maxRecDepth 10000 in
set_option maxHeartbeats 2000000 in
theorem dbmCheck_any (n : Int) (p : Option Addr) (N cap : Nat) (f : Nat → Int) (w : World) (hn : fits64 n) (hS : SlP w p N f) (hF : Fits N f) (hN : N ≤ 9223372036854775807) :
    Calls Try.prog 35 #[.agg #[.int .i64 n, .slice p N cap]] w (Gives w (.int .i64 (rcode (okD n N f)))) := by
  by_cases h1 : 1 ≤ n
  · by_cases h2 : n ≤ 4
    · obtain ⟨m, rfl⟩ : ∃ m : Nat, n = (m : Int) := ⟨n.toNat, by omega⟩
      obtain ⟨q, hq⟩ : ∃ q : Nat, (m : Int) * (m : Int) = (q : Int) := ⟨m * m, by simp⟩
      have hqm : q ≤ 4 * 4 := by
        have : m * m ≤ 4 * 4 := Nat.mul_le_mul (by omega) (by omega)
        have e : m * m = q := by exact_mod_cast hq
        omega
      by_cases h3 : N = q
      · subst h3
        have R : Hid (okD m N f = allMay N f) := by
          show _ = _
          simp [okD, hq, h1, h2]
        have C := Lib.hid (fun (w' : World) (hb : Below w.heap.size w w') => contains_any p N cap f w' (hS.below hb) hF hN)
        obtain ⟨b, hb⟩ : ∃ b, b = allMay N f := ⟨_, rfl⟩
        rw [← hb] at C R
        have h4 : ((N : Int) != (N : Int)) = false := by simp
        clear hb hS hF
        go_enter Try.func35, Try.ntmps35
        go_wp2_with (fail)
        refine (C.out _ (by (repeat' (first | (with_reducible assumption) | (with_reducible exact Below.refl _ _) | (with_reducible refine below_wov ?_ ?_ _) | (with_reducible refine below_drewN ?_ _) | (with_reducible refine Below.drew ?_) | (with_reducible refine Below.alloc ?_ ?_ _) | (with_reducible refine Below.setCell ?_ ?_ _) | (with_reducible exact Nat.le_refl _) | omega | (simp only [World.size_alloc, World.size_setCell, World.size_drew, Wov_size, World.heap_drewN]; omega))))).mono ?_; rintro e w' ⟨rfl, pq, rfl⟩
        cases b
        all_goals
          go_wp2
          go_ret
          exact gives_int (by rw [R.out]; rfl) (by (repeat' (first | (with_reducible assumption) | (with_reducible exact Below.refl _ _) | (with_reducible refine below_wov ?_ ?_ _) | (with_reducible refine below_drewN ?_ _) | (with_reducible refine Below.drew ?_) | (with_reducible refine Below.alloc ?_ ?_ _) | (with_reducible refine Below.setCell ?_ ?_ _) | (with_reducible exact Nat.le_refl _) | omega | (simp only [World.size_alloc, World.size_setCell, World.size_drew, Wov_size, World.heap_drewN]; omega))))
      · have R : Hid (okD m N f = false) := by
          show _ = _
          have : ¬ ((N : Int) = (m : Int) * (m : Int)) := by rw [hq]; omega
          simp [okD, this]
        have h4 : ((N : Int) != (q : Int)) = true := by rw [bne_iff_ne]; omega
        clear hS hF
        go_enter Try.func35, Try.ntmps35
        go_wp2
        all_goals
          go_ret
          exact gives_int (by rw [R.out]; rfl) (by (repeat' (first | (with_reducible assumption) | (with_reducible exact Below.refl _ _) | (with_reducible refine below_wov ?_ ?_ _) | (with_reducible refine below_drewN ?_ _) | (with_reducible refine Below.drew ?_) | (with_reducible refine Below.alloc ?_ ?_ _) | (with_reducible refine Below.setCell ?_ ?_ _) | (with_reducible exact Nat.le_refl _) | omega | (simp only [World.size_alloc, World.size_setCell, World.size_drew, Wov_size, World.heap_drewN]; omega))))
    · have R : Hid (okD n N f = false) := by show _ = _; simp [okD, h2]
      have h3 : 4 < n := by omega
      clear hS hF
      go_enter Try.func35, Try.ntmps35
      go_wp2
      all_goals
        go_ret
        exact gives_int (by rw [R.out]; rfl) (by (repeat' (first | (with_reducible assumption) | (with_reducible exact Below.refl _ _) | (with_reducible refine below_wov ?_ ?_ _) | (with_reducible refine below_drewN ?_ _) | (with_reducible refine Below.drew ?_) | (with_reducible refine Below.alloc ?_ ?_ _) | (with_reducible refine Below.setCell ?_ ?_ _) | (with_reducible exact Nat.le_refl _) | omega | (simp only [World.size_alloc, World.size_setCell, World.size_drew, Wov_size, World.heap_drewN]; omega))))
  · have R : Hid (okD n N f = false) := by show _ = _; simp [okD, h1]
    have h3 : n < 1 := by omega
    clear hS hF h1
    go_enter Try.func35, Try.ntmps35
    go_wp2
    all_goals
      go_ret
      exact gives_int (by rw [R.out]; rfl) (by (repeat' (first | (with_reducible assumption) | (with_reducible exact Below.refl _ _) | (with_reducible refine below_wov ?_ ?_ _) | (with_reducible refine below_drewN ?_ _) | (with_reducible refine Below.drew ?_) | (with_reducible refine Below.alloc ?_ ?_ _) | (with_reducible refine Below.setCell ?_ ?_ _) | (with_reducible exact Nat.le_refl _) | omega | (simp only [World.size_alloc, World.size_setCell, World.size_drew, Wov_size, World.heap_drewN]; omega))))

/-- Its cells hold numbers, and may be written: a slice of the call's own. -/
def OwnI (w W : World) (sl : Value) (N : Nat) (f : Nat → Int) : Prop := ∃ B cap, sl = .slice (some ⟨B, 0, none⟩) N cap ∧ w.heap.size ≤ B ∧ B < W.heap.size ∧ HoldsI W B N f

def cellsI (N : Nat) (f : Nat → Int) : List Value := (List.range N).map fun x => .int .i64 (f x)
theorem cellsI_len (N : Nat) (f : Nat → Int) : (cellsI N f).length = N := by simp [cellsI]
theorem cellsI_get {N x : Nat} {f : Nat → Int} (h : x < N) : (cellsI N f)[x]? = some (.int .i64 (f x)) := by simp [cellsI, h]
theorem cellsI_get' {N x : Nat} {f : Nat → Int} {u : Value} (h : (cellsI N f)[x]? = some u) : x < N ∧ u = .int .i64 (f x) := by
  have hx : x < N := by
    by_cases hx : x < N
    · exact hx
    · rw [List.getElem?_eq_none (by rw [cellsI_len]; omega)] at h; cases h
  rw [cellsI_get hx] at h
  exact ⟨hx, by cases h; rfl⟩
theorem cellsI_one {N : Nat} {f : Nat → Int} : ∀ u ∈ cellsI N f, u.oneCell' = true := by
  intro u hu
  simp [cellsI] at hu
  obtain ⟨x, _, rfl⟩ := hu
  rfl
theorem cellsI_succ (N : Nat) (f : Nat → Int) : cellsI (N + 1) f = cellsI N f ++ [.int .i64 (f N)] := by simp [cellsI, List.range_succ]
theorem cellsI_congr {N : Nat} {f g : Nat → Int} (h : ∀ x, x < N → f x = g x) : cellsI N f = cellsI N g := by
  unfold cellsI
  apply List.map_congr_left
  intro x hx
  rw [h x (by simpa using hx)]
theorem infoB : (Try.prog.info? 24).map (fun i => (i.zero, i.size, i.bytes)) = some (some (.int .i64 0), 1, 8) := by kernel_rfl

/-- A row of one's own that holds numbers. -/
theorem holds_of_row {W : World} {base e N : Nat} {v : Value} {f : Nat → Int} (h0 : 0 < N) (h : W.ownsRow base e 1 v N (cellsI N f)) : ∃ B cap, v = .slice (some ⟨B, 0, none⟩) N cap ∧ base ≤ B ∧ B < W.heap.size ∧ HoldsI W B N f := by
  obtain ⟨_, ⟨_, hn⟩ | ⟨g, cap, cur, rfl, hb, hg, h1, h2, h3, h4⟩⟩ := h
  · omega
  · refine ⟨g, cap, rfl, hb, (Array.getElem?_eq_some_iff.1 hg).1, fun x hx => ?_⟩
    have hc : cur[x]? = some (.int .i64 (f x)) := by
      have h5 := cellsI_get (f := f) hx
      rw [← h4, List.getElem?_take, if_pos (by omega)] at h5
      simpa using h5
    constructor
    · simp [World.cell?, hg, hc]
    · simp [World.frozen?, hg]

set_option maxRecDepth 10000 in
set_option maxHeartbeats 2000000 in
theorem clone_any (B off N cap : Nat) (f : Nat → Int) (w : World) (h0 : 0 < N) (hN : N ≤ 1000000) (hB : B < w.heap.size) (hc : ∀ x, x < N → w.cell? ⟨B, off + x, none⟩ = some (.int .i64 (f x))) :
    Calls Try.prog 94 #[.slice (some ⟨B, off, none⟩) N cap] w fun e W => ∃ sl, e = .returned sl ∧ OwnI w W sl N f ∧ ∃ p, W = Wov w p := by
  have A := Lib.hid hc
  clear hc
  obtain ⟨i0, hi, hz0, hz1, hz2⟩ := info_parts infoB
  have q22 : ∀ (w : World) (a : Option Addr) (n c n' c' : Nat), (binOp .eql 37 (.slice a n c) (.slice none n' c')).run Try.prog w = .ok (.bool a.isNone) w := fun w a n c n' c' => Lib.run_eql_slice_nil w _ _ a n c n' c' Try.underlying37
  go_enter Try.func94, Try.ntmps94
  go_wp2_with (at_builtin; refine wpList_append_own _ rfl _ _ 37 rfl w.heap.size 24 i0 (.int .i64 0) 1 8 Try.underlying37 hi hz0 hz1 hz2 rfl (by decide) _ _ _ rfl (World.ownsRow_made w #[] 0 (Nat.le_refl _) (Nat.zero_le _) (by simp)) ⟨B, off, none⟩ N cap (cellsI N f) rfl ?qc1 ?qc2 ?qc3 ?qc4 ?qc5 ?qc6 ?_)
  case qc1 => rw [cellsI_len, Nat.mul_one]
  case qc2 =>
    intro j u hj
    obtain ⟨hjN, rfl⟩ := cellsI_get' hj
    rw [Addr.add_lit]
    exact (World.cell?_alloc_lt _ _ _ hB).trans (A.out j hjN)
  case qc3 => exact cellsI_one
  case qc4 => rw [Nat.zero_add]; unfold maxLen; omega
  case qc5 => rw [Nat.zero_add]; omega
  case qc6 => simp
  intro v' w1 hown hgrow hnil
  obtain ⟨B2, cap2, rfl, h1, h2, h3⟩ := holds_of_row h0 hown
  have hB : Below w.heap.size w w1 := ((Below.refl _ w).alloc (Nat.le_refl _) _).grown hgrow (by simp) (by intro k hk; simp [Value.ownBlock] at hk; omega)
  clear hnil hown hgrow hi hz0 hz1 hz2
  go_wp2
  go_ret
  exact ⟨_, rfl, ⟨B2, cap2, rfl, h1, h2, h3⟩, Wov_of_below hB⟩
end Go.Proofs.Ytlcbpckinjkfeaa
