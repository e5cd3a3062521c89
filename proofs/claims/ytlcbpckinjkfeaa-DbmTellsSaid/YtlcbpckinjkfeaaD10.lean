/- Contracts of the document's Same, slices.Equal, dbm.Same, and the law package's two. No condition but on the count of bounds. -/
import Derived.Test.YtlcbpckinjkfeaaD9
namespace Go.Proofs.Ytlcbpckinjkfeaa
set_option linter.unusedSimpArgs false
set_option linter.unusedVariables false
open Go Go.RowKit Go.Shelf
attribute [local go_sem] Nat.add_assoc Nat.add_lt_add_iff_left lit_lt_add

/-- Are two lists of numbers the same? -/
def eqB (N : Nat) (f1 f2 : Nat → Int) : Bool := (List.range N).all fun x => decide (f1 x = f2 x)
def sameB (n1 : Int) (N1 : Nat) (f1 : Nat → Int) (n2 : Int) (N2 : Nat) (f2 : Nat → Int) : Bool := decide (n1 = n2) && (decide (N1 = N2) && eqB N1 f1 f2)
theorem eqB_t {N : Nat} {f1 f2 : Nat → Int} (h : ∀ x, x < N → f1 x = f2 x) : eqB N f1 f2 = true := by
  unfold eqB; rw [List.all_eq_true]; intro x hx; simpa using h x (by simpa using hx)
theorem eqB_f {N t : Nat} {f1 f2 : Nat → Int} (ht : t < N) (h : f1 t ≠ f2 t) : eqB N f1 f2 = false := by
  unfold eqB; rw [List.all_eq_false]; exact ⟨t, by simpa using ht, by simpa using h⟩
theorem eqB_iff {N : Nat} {f1 f2 : Nat → Int} : eqB N f1 f2 = true ↔ ∀ x, x < N → f1 x = f2 x := by
  unfold eqB; rw [List.all_eq_true]
  constructor
  · intro h x hx; simpa using h x (by simpa using hx)
  · intro h x hx; simpa using h x (by simpa using hx)

theorem SlP.pos {W : World} {p : Option Addr} {N : Nat} {f : Nat → Int} (h : SlP W p N f) (h0 : 0 < N) : ∃ B off, p = some ⟨B, off, none⟩ ∧ B < W.heap.size ∧ ∀ x, x < N → W.cell? ⟨B, off + x, none⟩ = some (.int .i64 (f x)) := by
  rcases h with h | h
  · omega
  · exact h

set_option maxRecDepth 10000 in
set_option maxHeartbeats 2000000 in
theorem refSame_any (n1 n2 : Int) (p1 p2 : Option Addr) (N1 N2 c1 c2 : Nat) (f1 f2 : Nat → Int) (w : World) (hS1 : SlP w p1 N1 f1) (hS2 : SlP w p2 N2 f2) (hN : N1 ≤ 1000000) :
    Calls Try.prog 34 #[.agg #[.int .i64 n1, .slice p1 N1 c1], .agg #[.int .i64 n2, .slice p2 N2 c2]] w (Gives w (.bool (sameB n1 N1 f1 n2 N2 f2))) := by
  by_cases hn : n1 = n2
  · have e1 := bne_f hn
    by_cases hNN : N1 = N2
    · subst hNN
      subst hn
      have R : Hid (sameB n1 N1 f1 n1 N1 f2 = eqB N1 f1 f2) := by show _ = _; simp [sameB]
      go_enter Try.func34, Try.ntmps34
      go_wp2
      go_loopw [5] (fun i wr => ∃ t : Nat, t ≤ N1 ∧ i = .int .i64 t ∧ Hid (∀ x, x < t → f1 x = f2 x) ∧ ∃ m, wr = (((w.alloc (.cells #[.int .i64 n1, .slice p1 N1 c1] 39)).alloc (.cells #[.int .i64 n1, .slice p2 N1 c2] 39)).drewN m))
        (fun i _ => N1 - (intOf i).toNat)
      case atStart => exact ⟨0, Nat.zero_le _, rfl, (fun x hx => by omega), 0, rfl⟩
      case round =>
        obtain ⟨t, ht, rfl, hpre, m, rfl⟩ := hrel
        by_cases hlt : t < N1
        · obtain ⟨B1, o1, rfl, hB1, h1⟩ := hS1.pos (by omega)
          obtain ⟨B2, o2, rfl, hB2, h2⟩ := hS2.pos (by omega)
          have g1 := h1 t hlt
          have g2 := h2 t hlt
          obtain ⟨v1, hv1⟩ : ∃ v, v = f1 t := ⟨_, rfl⟩
          obtain ⟨v2, hv2⟩ : ∃ v, v = f2 t := ⟨_, rfl⟩
          rw [← hv1] at g1
          rw [← hv2] at g2
          have HV1 := Lib.hid hv1
          have HV2 := Lib.hid hv2
          clear hv1 hv2 h1 h2
          have u1 : (0 : Int) ≤ (t : Int) := by omega
          have u2 : (t : Int) < (N1 : Int) := by omega
          by_cases hv : v1 = v2
          · have e2 := bne_f hv
            have HV := Lib.hid hv
            clear hv
            go_wp2
            go_quiet (fail)
            go_wp2
            go_roundw
            case rel =>
              refine ⟨t + 1, hlt, by go_num, fun x hx => ?_, _, rfl⟩
              by_cases e : x = t
              · subst e; rw [← HV1.out, ← HV2.out]; exact HV.out
              · exact hpre.out x (by omega)
            case measure => simp [intOf]; omega
          · have e2 := bne_t hv
            go_wp2
            go_quiet (fail)
            go_wp2
            go_ret
            exact gives_bool (by rw [R.out, eqB_f hlt (by rw [← HV1.out, ← HV2.out]; exact hv)]) (by (repeat' (first | (with_reducible assumption) | (with_reducible exact Below.refl _ _) | (with_reducible refine below_wov ?_ ?_ _) | (with_reducible refine below_drewN ?_ _) | (with_reducible refine Below.drew ?_) | (with_reducible refine Below.alloc ?_ ?_ _) | (with_reducible refine Below.setCell ?_ ?_ _) | (with_reducible exact Nat.le_refl _) | omega | (simp only [World.size_alloc, World.size_setCell, World.size_drew, Wov_size, World.heap_drewN]; omega))))
        · have e : t = N1 := by omega
          subst e
          go_wp2
          go_ret
          exact gives_bool (by rw [R.out, eqB_t hpre.out]) (by (repeat' (first | (with_reducible assumption) | (with_reducible exact Below.refl _ _) | (with_reducible refine below_wov ?_ ?_ _) | (with_reducible refine below_drewN ?_ _) | (with_reducible refine Below.drew ?_) | (with_reducible refine Below.alloc ?_ ?_ _) | (with_reducible refine Below.setCell ?_ ?_ _) | (with_reducible exact Nat.le_refl _) | omega | (simp only [World.size_alloc, World.size_setCell, World.size_drew, Wov_size, World.heap_drewN]; omega))))
    · have R : Hid (sameB n1 N1 f1 n2 N2 f2 = false) := by show _ = _; simp [sameB, hNN]
      have e2 : ((N1 : Int) != (N2 : Int)) = true := by rw [bne_iff_ne]; omega
      clear hS1 hS2 hn
      go_enter Try.func34, Try.ntmps34
      go_wp2
      all_goals
        go_ret
        exact gives_bool (by rw [R.out]) (by (repeat' (first | (with_reducible assumption) | (with_reducible exact Below.refl _ _) | (with_reducible refine below_wov ?_ ?_ _) | (with_reducible refine below_drewN ?_ _) | (with_reducible refine Below.drew ?_) | (with_reducible refine Below.alloc ?_ ?_ _) | (with_reducible refine Below.setCell ?_ ?_ _) | (with_reducible exact Nat.le_refl _) | omega | (simp only [World.size_alloc, World.size_setCell, World.size_drew, Wov_size, World.heap_drewN]; omega))))
  · have R : Hid (sameB n1 N1 f1 n2 N2 f2 = false) := by show _ = _; simp [sameB, hn]
    have e1 := bne_t hn
    clear hS1 hS2
    go_enter Try.func34, Try.ntmps34
    go_wp2
    all_goals
      go_ret
      exact gives_bool (by rw [R.out]) (by (repeat' (first | (with_reducible assumption) | (with_reducible exact Below.refl _ _) | (with_reducible refine below_wov ?_ ?_ _) | (with_reducible refine below_drewN ?_ _) | (with_reducible refine Below.drew ?_) | (with_reducible refine Below.alloc ?_ ?_ _) | (with_reducible refine Below.setCell ?_ ?_ _) | (with_reducible exact Nat.le_refl _) | omega | (simp only [World.size_alloc, World.size_setCell, World.size_drew, Wov_size, World.heap_drewN]; omega))))

set_option maxRecDepth 10000 in
set_option maxHeartbeats 2000000 in
theorem equal_any (p1 p2 : Option Addr) (N1 N2 c1 c2 : Nat) (f1 f2 : Nat → Int) (w : World) (hS1 : SlP w p1 N1 f1) (hS2 : SlP w p2 N2 f2) (hN : N1 ≤ 1000000) :
    Calls Try.prog 98 #[.slice p1 N1 c1, .slice p2 N2 c2] w (Gives w (.bool (decide (N1 = N2) && eqB N1 f1 f2))) := by
  by_cases hNN : N1 = N2
  · subst hNN
    have R : Hid ((decide (N1 = N1) && eqB N1 f1 f2) = eqB N1 f1 f2) := by show _ = _; simp
    go_enter Try.func98, Try.ntmps98
    go_wp2
    go_loopw [5, 13] (fun _ i wr => ∃ t : Nat, t ≤ N1 ∧ i = .int .i64 t ∧ Hid (∀ x, x < t → f1 x = f2 x) ∧ ∃ m, wr = w.drewN m)
      (fun _ i _ => N1 - (intOf i).toNat)
    case atStart => exact ⟨0, Nat.zero_le _, rfl, (fun x hx => by omega), 0, rfl⟩
    case round =>
      obtain ⟨t, ht, rfl, hpre, m, rfl⟩ := hrel
      by_cases hlt : t < N1
      · obtain ⟨B1, o1, rfl, hB1, h1⟩ := hS1.pos (by omega)
        obtain ⟨B2, o2, rfl, hB2, h2⟩ := hS2.pos (by omega)
        have g1 := h1 t hlt
        have g2 := h2 t hlt
        obtain ⟨v1, hv1⟩ : ∃ v, v = f1 t := ⟨_, rfl⟩
        obtain ⟨v2, hv2⟩ : ∃ v, v = f2 t := ⟨_, rfl⟩
        rw [← hv1] at g1
        rw [← hv2] at g2
        have HV1 := Lib.hid hv1
        have HV2 := Lib.hid hv2
        clear hv1 hv2 h1 h2
        have u1 : (0 : Int) ≤ (t : Int) := by omega
        have u2 : (t : Int) < (N1 : Int) := by omega
        by_cases hv : v1 = v2
        · have e2 := bne_f hv
          have HV := Lib.hid hv
          clear hv
          go_wp2
          go_quiet (fail)
          go_wp2
          go_roundw
          case rel =>
            refine ⟨t + 1, hlt, by go_num, fun x hx => ?_, _, rfl⟩
            by_cases e : x = t
            · subst e; rw [← HV1.out, ← HV2.out]; exact HV.out
            · exact hpre.out x (by omega)
          case measure => simp [intOf]; omega
        · have e2 := bne_t hv
          go_wp2
          go_quiet (fail)
          go_wp2
          go_ret
          exact gives_bool (by rw [eqB_f hlt (by rw [← HV1.out, ← HV2.out]; exact hv)]; try rfl) (by (repeat' (first | (with_reducible assumption) | (with_reducible exact Below.refl _ _) | (with_reducible refine below_wov ?_ ?_ _) | (with_reducible refine below_drewN ?_ _) | (with_reducible refine Below.drew ?_) | (with_reducible refine Below.alloc ?_ ?_ _) | (with_reducible refine Below.setCell ?_ ?_ _) | (with_reducible exact Nat.le_refl _) | omega | (simp only [World.size_alloc, World.size_setCell, World.size_drew, Wov_size, World.heap_drewN]; omega))))
      · have e : t = N1 := by omega
        subst e
        go_wp2
        go_ret
        exact gives_bool (by rw [eqB_t hpre.out]; try rfl) (by (repeat' (first | (with_reducible assumption) | (with_reducible exact Below.refl _ _) | (with_reducible refine below_wov ?_ ?_ _) | (with_reducible refine below_drewN ?_ _) | (with_reducible refine Below.drew ?_) | (with_reducible refine Below.alloc ?_ ?_ _) | (with_reducible refine Below.setCell ?_ ?_ _) | (with_reducible exact Nat.le_refl _) | omega | (simp only [World.size_alloc, World.size_setCell, World.size_drew, Wov_size, World.heap_drewN]; omega))))
  · have R : Hid ((decide (N1 = N2) && eqB N1 f1 f2) = false) := by show _ = _; simp [hNN]
    have e2 : ((N1 : Int) != (N2 : Int)) = true := by rw [bne_iff_ne]; omega
    clear hS1 hS2
    go_enter Try.func98, Try.ntmps98
    go_wp2
    all_goals
      go_ret
      exact gives_bool (by first | rw [R.out] | simp [hNN]) (by (repeat' (first | (with_reducible assumption) | (with_reducible exact Below.refl _ _) | (with_reducible refine below_wov ?_ ?_ _) | (with_reducible refine below_drewN ?_ _) | (with_reducible refine Below.drew ?_) | (with_reducible refine Below.alloc ?_ ?_ _) | (with_reducible refine Below.setCell ?_ ?_ _) | (with_reducible exact Nat.le_refl _) | omega | (simp only [World.size_alloc, World.size_setCell, World.size_drew, Wov_size, World.heap_drewN]; omega))))

set_option maxRecDepth 10000 in
set_option maxHeartbeats 2000000 in
theorem same_any (n1 n2 : Int) (p1 p2 : Option Addr) (N1 N2 c1 c2 : Nat) (f1 f2 : Nat → Int) (w : World) (hS1 : SlP w p1 N1 f1) (hS2 : SlP w p2 N2 f2) (hN : N1 ≤ 1000000) :
    Calls Try.prog 37 #[.agg #[.int .i64 n1, .slice p1 N1 c1], .agg #[.int .i64 n2, .slice p2 N2 c2]] w (Gives w (.bool (sameB n1 N1 f1 n2 N2 f2))) := by
  by_cases hn : n1 = n2
  · have e1 : (n1 == n2) = true := by simpa using hn
    have R : Hid (sameB n1 N1 f1 n2 N2 f2 = (decide (N1 = N2) && eqB N1 f1 f2)) := by show _ = _; simp [sameB, hn]
    have C : Hid (∀ w', Below w.heap.size w w' → Calls Try.prog 98 #[.slice p1 N1 c1, .slice p2 N2 c2] w' (Gives w' (.bool (decide (N1 = N2) && eqB N1 f1 f2)))) := fun w' hb =>
      equal_any p1 p2 N1 N2 c1 c2 f1 f2 w' (hS1.below hb) (hS2.below hb) hN
    obtain ⟨b, hb⟩ : ∃ b, b = (decide (N1 = N2) && eqB N1 f1 f2) := ⟨_, rfl⟩
    rw [← hb] at C R
    clear hS1 hS2 hn hb
    go_enter Try.func37, Try.ntmps37
    go_wp2_with (fail)
    refine (C.out _ (by (repeat' (first | (with_reducible assumption) | (with_reducible exact Below.refl _ _) | (with_reducible refine below_wov ?_ ?_ _) | (with_reducible refine below_drewN ?_ _) | (with_reducible refine Below.drew ?_) | (with_reducible refine Below.alloc ?_ ?_ _) | (with_reducible refine Below.setCell ?_ ?_ _) | (with_reducible exact Nat.le_refl _) | omega | (simp only [World.size_alloc, World.size_setCell, World.size_drew, Wov_size, World.heap_drewN]; omega))))).mono ?_; rintro e w' ⟨rfl, q, rfl⟩
    go_wp2
    go_ret
    exact gives_bool (by rw [R.out]) (by (repeat' (first | (with_reducible assumption) | (with_reducible exact Below.refl _ _) | (with_reducible refine below_wov ?_ ?_ _) | (with_reducible refine below_drewN ?_ _) | (with_reducible refine Below.drew ?_) | (with_reducible refine Below.alloc ?_ ?_ _) | (with_reducible refine Below.setCell ?_ ?_ _) | (with_reducible exact Nat.le_refl _) | omega | (simp only [World.size_alloc, World.size_setCell, World.size_drew, Wov_size, World.heap_drewN]; omega))))
  · have R : Hid (sameB n1 N1 f1 n2 N2 f2 = false) := by show _ = _; simp [sameB, hn]
    have e1 := beq_f hn
    clear hS1 hS2
    go_enter Try.func37, Try.ntmps37
    go_wp2
    go_ret
    exact gives_bool (by rw [R.out]) (by (repeat' (first | (with_reducible assumption) | (with_reducible exact Below.refl _ _) | (with_reducible refine below_wov ?_ ?_ _) | (with_reducible refine below_drewN ?_ _) | (with_reducible refine Below.drew ?_) | (with_reducible refine Below.alloc ?_ ?_ _) | (with_reducible refine Below.setCell ?_ ?_ _) | (with_reducible exact Nat.le_refl _) | omega | (simp only [World.size_alloc, World.size_setCell, World.size_drew, Wov_size, World.heap_drewN]; omega))))

def four (a b c d : Int) : Nat → Int
  | 0 => a
  | 1 => b
  | 2 => c
  | _ => d
def twoPost (w : World) (a b c d : Int) (e : Ending) (W : World) : Prop := ∃ B, e = .returned (.agg #[.int .i64 2, .slice (some ⟨B, 0, none⟩) 4 4]) ∧ w.heap.size ≤ B ∧ B < W.heap.size ∧ HoldsI W B 4 (four a b c d) ∧ ∃ q, W = Wov w q
end Go.Proofs.Ytlcbpckinjkfeaa
