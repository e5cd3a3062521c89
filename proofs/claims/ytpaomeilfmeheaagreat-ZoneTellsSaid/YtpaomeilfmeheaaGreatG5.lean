/- Contracts of incl.checked, incl.root, order.under, incl.In and incl.Apart, of all matrices. -/
import Derived.Test.YtpaomeilfmeheaaGreatG1
namespace Go.Proofs.YtpaomeilfmeheaaGreat
set_option linter.unusedSimpArgs false
set_option linter.unusedVariables false
open Go Go.RowKit Go.Shelf
attribute [local go_sem] Nat.add_assoc Nat.add_lt_add_iff_left lit_lt_add

set_option maxRecDepth 10000 in
set_option maxHeartbeats 1000000 in
theorem inclChecked_any (n1 : Int) (p1 : Option Addr) (N1 c1 : Nat) (f1 : Nat → Int) (n2 : Int) (p2 : Option Addr) (N2 c2 : Nat) (f2 : Nat → Int) (w : World) (hn1 : fits64 n1) (hn2 : fits64 n2) (hS1 : SlP w p1 N1 f1) (hS2 : SlP w p2 N2 f2) (hF1 : Fits N1 f1) (hF2 : Fits N2 f2) (hN1 : N1 ≤ 1000000) (hN2 : N2 ≤ 1000000) :
    Calls Tryz.prog 63 #[.agg #[.int .i64 n1, .slice p1 N1 c1], .agg #[.int .i64 n2, .slice p2 N2 c2]] w (Gives w (.int .i64 (twoE n1 N1 f1 n2 N2 f2))) := by
  have K1 : Hid (∀ w', Below w.heap.size w w' → Calls Tryz.prog 22 #[.agg #[.int .i64 n1, .slice p1 N1 c1]] w' (Gives w' (.int .i64 (rcode (okD n1 N1 f1))))) := fun w' hb =>
    dbmCheck_any n1 p1 N1 c1 f1 w' hn1 (hS1.below hb) hF1 (by omega)
  have K2 : Hid (∀ w', Below w.heap.size w w' → Calls Tryz.prog 22 #[.agg #[.int .i64 n2, .slice p2 N2 c2]] w' (Gives w' (.int .i64 (rcode (okD n2 N2 f2))))) := fun w' hb =>
    dbmCheck_any n2 p2 N2 c2 f2 w' hn2 (hS2.below hb) hF2 (by omega)
  unfold twoE
  clear hS1 hS2 hF1 hF2
  cases o1 : okD n1 N1 f1
  · rw [o1] at K1
    simp only [rcode, if_true, Bool.false_eq_true, if_false, Bool.false_and] at K1 ⊢
    clear o1 K2
    go_enter Tryz.func63, Tryz.ntmps63
    go_wp2_with (fail)
    refine (K1.out _ (by (repeat' (first | (with_reducible assumption) | (with_reducible exact Below.refl _ _) | (with_reducible refine below_wov ?_ ?_ _) | (with_reducible refine below_drewN ?_ _) | (with_reducible refine Below.drew ?_) | (with_reducible refine Below.alloc ?_ ?_ _) | (with_reducible refine Below.setCell ?_ ?_ _) | (with_reducible exact Nat.le_refl _) | omega | (simp only [World.size_alloc, World.size_setCell, World.size_drew, Wov_size, World.heap_drewN]; omega))))).mono ?_; rintro e w' ⟨rfl, q1, rfl⟩
    go_wp2
    go_ret
    exact gives_int rfl (by (repeat' (first | (with_reducible assumption) | (with_reducible exact Below.refl _ _) | (with_reducible refine below_wov ?_ ?_ _) | (with_reducible refine below_drewN ?_ _) | (with_reducible refine Below.drew ?_) | (with_reducible refine Below.alloc ?_ ?_ _) | (with_reducible refine Below.setCell ?_ ?_ _) | (with_reducible exact Nat.le_refl _) | omega | (simp only [World.size_alloc, World.size_setCell, World.size_drew, Wov_size, World.heap_drewN]; omega))))
  · rw [o1] at K1
    cases o2 : okD n2 N2 f2
    · rw [o2] at K2
      simp only [rcode, if_true, Bool.false_eq_true, if_false, Bool.and_false] at K1 K2 ⊢
      clear o1 o2
      go_enter Tryz.func63, Tryz.ntmps63
      go_wp2_with (fail)
      refine (K1.out _ (by (repeat' (first | (with_reducible assumption) | (with_reducible exact Below.refl _ _) | (with_reducible refine below_wov ?_ ?_ _) | (with_reducible refine below_drewN ?_ _) | (with_reducible refine Below.drew ?_) | (with_reducible refine Below.alloc ?_ ?_ _) | (with_reducible refine Below.setCell ?_ ?_ _) | (with_reducible exact Nat.le_refl _) | omega | (simp only [World.size_alloc, World.size_setCell, World.size_drew, Wov_size, World.heap_drewN]; omega))))).mono ?_; rintro e w' ⟨rfl, q1, rfl⟩
      go_wp2_with (fail)
      refine (K2.out _ (by (repeat' (first | (with_reducible assumption) | (with_reducible exact Below.refl _ _) | (with_reducible refine below_wov ?_ ?_ _) | (with_reducible refine below_drewN ?_ _) | (with_reducible refine Below.drew ?_) | (with_reducible refine Below.alloc ?_ ?_ _) | (with_reducible refine Below.setCell ?_ ?_ _) | (with_reducible exact Nat.le_refl _) | omega | (simp only [World.size_alloc, World.size_setCell, World.size_drew, Wov_size, World.heap_drewN]; omega))))).mono ?_; rintro e w' ⟨rfl, q2, rfl⟩
      go_wp2
      go_ret
      exact gives_int rfl (by (repeat' (first | (with_reducible assumption) | (with_reducible exact Below.refl _ _) | (with_reducible refine below_wov ?_ ?_ _) | (with_reducible refine below_drewN ?_ _) | (with_reducible refine Below.drew ?_) | (with_reducible refine Below.alloc ?_ ?_ _) | (with_reducible refine Below.setCell ?_ ?_ _) | (with_reducible exact Nat.le_refl _) | omega | (simp only [World.size_alloc, World.size_setCell, World.size_drew, Wov_size, World.heap_drewN]; omega))))
    · rw [o2] at K2
      simp only [rcode, if_true, Bool.and_self] at K1 K2 ⊢
      clear o1 o2
      by_cases hne : n1 = n2
      · have bne : (n1 != n2) = false := by rw [hne]; simp
        rw [if_pos hne]
        clear hne
        go_enter Tryz.func63, Tryz.ntmps63
        go_wp2_with (fail)
        refine (K1.out _ (by (repeat' (first | (with_reducible assumption) | (with_reducible exact Below.refl _ _) | (with_reducible refine below_wov ?_ ?_ _) | (with_reducible refine below_drewN ?_ _) | (with_reducible refine Below.drew ?_) | (with_reducible refine Below.alloc ?_ ?_ _) | (with_reducible refine Below.setCell ?_ ?_ _) | (with_reducible exact Nat.le_refl _) | omega | (simp only [World.size_alloc, World.size_setCell, World.size_drew, Wov_size, World.heap_drewN]; omega))))).mono ?_; rintro e w' ⟨rfl, q1, rfl⟩
        go_wp2_with (fail)
        refine (K2.out _ (by (repeat' (first | (with_reducible assumption) | (with_reducible exact Below.refl _ _) | (with_reducible refine below_wov ?_ ?_ _) | (with_reducible refine below_drewN ?_ _) | (with_reducible refine Below.drew ?_) | (with_reducible refine Below.alloc ?_ ?_ _) | (with_reducible refine Below.setCell ?_ ?_ _) | (with_reducible exact Nat.le_refl _) | omega | (simp only [World.size_alloc, World.size_setCell, World.size_drew, Wov_size, World.heap_drewN]; omega))))).mono ?_; rintro e w' ⟨rfl, q2, rfl⟩
        go_wp2
        go_ret
        exact gives_int rfl (by (repeat' (first | (with_reducible assumption) | (with_reducible exact Below.refl _ _) | (with_reducible refine below_wov ?_ ?_ _) | (with_reducible refine below_drewN ?_ _) | (with_reducible refine Below.drew ?_) | (with_reducible refine Below.alloc ?_ ?_ _) | (with_reducible refine Below.setCell ?_ ?_ _) | (with_reducible exact Nat.le_refl _) | omega | (simp only [World.size_alloc, World.size_setCell, World.size_drew, Wov_size, World.heap_drewN]; omega))))
      · have bne : (n1 != n2) = true := by rw [bne_iff_ne]; exact hne
        rw [if_neg hne]
        clear hne
        go_enter Tryz.func63, Tryz.ntmps63
        go_wp2_with (fail)
        refine (K1.out _ (by (repeat' (first | (with_reducible assumption) | (with_reducible exact Below.refl _ _) | (with_reducible refine below_wov ?_ ?_ _) | (with_reducible refine below_drewN ?_ _) | (with_reducible refine Below.drew ?_) | (with_reducible refine Below.alloc ?_ ?_ _) | (with_reducible refine Below.setCell ?_ ?_ _) | (with_reducible exact Nat.le_refl _) | omega | (simp only [World.size_alloc, World.size_setCell, World.size_drew, Wov_size, World.heap_drewN]; omega))))).mono ?_; rintro e w' ⟨rfl, q1, rfl⟩
        go_wp2_with (fail)
        refine (K2.out _ (by (repeat' (first | (with_reducible assumption) | (with_reducible exact Below.refl _ _) | (with_reducible refine below_wov ?_ ?_ _) | (with_reducible refine below_drewN ?_ _) | (with_reducible refine Below.drew ?_) | (with_reducible refine Below.alloc ?_ ?_ _) | (with_reducible refine Below.setCell ?_ ?_ _) | (with_reducible exact Nat.le_refl _) | omega | (simp only [World.size_alloc, World.size_setCell, World.size_drew, Wov_size, World.heap_drewN]; omega))))).mono ?_; rintro e w' ⟨rfl, q2, rfl⟩
        go_wp2
        go_ret
        exact gives_int rfl (by (repeat' (first | (with_reducible assumption) | (with_reducible exact Below.refl _ _) | (with_reducible refine below_wov ?_ ?_ _) | (with_reducible refine below_drewN ?_ _) | (with_reducible refine Below.drew ?_) | (with_reducible refine Below.alloc ?_ ?_ _) | (with_reducible refine Below.setCell ?_ ?_ _) | (with_reducible exact Nat.le_refl _) | omega | (simp only [World.size_alloc, World.size_setCell, World.size_drew, Wov_size, World.heap_drewN]; omega))))

set_option maxRecDepth 10000 in
set_option maxHeartbeats 1000000 in
theorem root_any (n : Nat) (hn : n ≤ 4) : Pure Tryz.prog 92 #[.int .i64 ((n * n : Nat) : Int)] (.int .i64 n) := by
  intro w
  obtain ⟨q, hq⟩ : ∃ q : Nat, q = n * n := ⟨_, rfl⟩
  have hq16 : q ≤ 16 := by rw [hq]; exact Nat.mul_le_mul hn hn
  rw [← hq]
  have hsq : ∀ t : Nat, t ≤ n → ((t : Int) * (t : Int) < (q : Int) ↔ t < n) := by
    intro t ht
    have h1 : t = 0 ∨ t = 1 ∨ t = 2 ∨ t = 3 ∨ t = 4 := by omega
    have h2 : n = 0 ∨ n = 1 ∨ n = 2 ∨ n = 3 ∨ n = 4 := by omega
    rcases h1 with rfl | rfl | rfl | rfl | rfl <;> rcases h2 with rfl | rfl | rfl | rfl | rfl <;> simp at hq ⊢ <;> omega
  clear hq
  go_enter Tryz.func92, Tryz.ntmps92
  go_wp2
  go_loopw [2] (fun i wr => ∃ t : Nat, t ≤ n ∧ i = .int .i64 t ∧ wr = w) (fun i _ => n - (intOf i).toNat)
  case atStart => exact ⟨0, Nat.zero_le _, rfl, rfl⟩
  case round =>
    obtain ⟨t, ht, rfl, rfl⟩ := hrel
    have h := hsq t ht
    obtain ⟨v, hv⟩ : ∃ v : Int, (t : Int) * (t : Int) = v := ⟨_, rfl⟩
    have hv0 : 0 ≤ v ∧ v ≤ 16 := by
      have h1 : t = 0 ∨ t = 1 ∨ t = 2 ∨ t = 3 ∨ t = 4 := by omega
      rcases h1 with rfl | rfl | rfl | rfl | rfl <;> simp at hv <;> omega
    rw [hv] at h
    by_cases hlt : t < n
    · have hd : decide (v < (q : Int)) = true := by simpa using h.2 hlt
      have e1 : IntKind.i64.wrap v = v := IntWalk.i64_in _ (by omega)
      clear h
      go_wp2
      go_roundw
      case rel => exact ⟨t + 1, hlt, by go_num, by first | trivial | rfl⟩
      case measure => simp [intOf]; omega
    · have e : t = n := by omega
      subst e
      have hd : decide (v < (q : Int)) = false := by simpa using mt h.1 hlt
      have e1 : IntKind.i64.wrap v = v := IntWalk.i64_in _ (by omega)
      clear h
      go_wp2
      go_ret
      exact gives_int rfl (by (repeat' (first | (with_reducible assumption) | (with_reducible exact Below.refl _ _) | (with_reducible refine below_wov ?_ ?_ _) | (with_reducible refine below_drewN ?_ _) | (with_reducible refine Below.drew ?_) | (with_reducible refine Below.alloc ?_ ?_ _) | (with_reducible refine Below.setCell ?_ ?_ _) | (with_reducible exact Nat.le_refl _) | omega | (simp only [World.size_alloc, World.size_setCell, World.size_drew, Wov_size, World.heap_drewN]; omega))))

/-- How far the bounds are under. -/
theorem underK_step {n : Nat} {c g : Nat → Int} (h : ∀ x, x < n * n → x % (n + 1) = 0 ∨ c x ≤ g x) : underK n c g = true := underK_iff.2 h
theorem underK_stop {n t : Nat} {c g : Nat → Int} (ht : t < n * n) (h1 : ¬ t % (n + 1) = 0) (h2 : ¬ c t ≤ g t) : underK n c g = false := by
  rw [← Bool.not_eq_true, underK_iff]
  exact fun h => (h t ht).elim h1 h2

set_option maxRecDepth 10000 in
set_option maxHeartbeats 2000000 in
theorem under_any (n : Nat) (p1 p2 : Option Addr) (c1 c2 : Nat) (f1 f2 : Nat → Int) (w : World) (hn0 : 1 ≤ n) (hn : n ≤ 4) (hS1 : SlP w p1 (n * n) f1) (hS2 : SlP w p2 (n * n) f2) :
    Calls Tryz.prog 64 #[.slice p1 (n * n) c1, .slice p2 (n * n) c2] w (Gives w (.bool (underK n f1 f2))) := by
  have R := Lib.hid (root_any n hn)
  have hq1 : 1 * 1 ≤ n * n := Nat.mul_le_mul hn0 hn0
  have hq0 : n * n ≤ 4 * 4 := Nat.mul_le_mul hn hn
  obtain ⟨B1, o1, rfl, hB1, hc1⟩ := hS1.pos (by omega)
  obtain ⟨B2, o2, rfl, hB2, hc2⟩ := hS2.pos (by omega)
  have U1 := Lib.hid (fun h => underK_step (n := n) (c := f1) (g := f2) h)
  have U2 := Lib.hid (fun t => underK_stop (n := n) (t := t) (c := f1) (g := f2))
  obtain ⟨b, hb⟩ : ∃ b, b = underK n f1 f2 := ⟨_, rfl⟩
  rw [← hb] at U1 U2 ⊢
  obtain ⟨N, hN⟩ : ∃ N, N = n * n := ⟨_, rfl⟩
  rw [← hN] at R U1 U2 hq0 hq1 hc1 hc2 ⊢
  clear hb hN hS1 hS2
  go_enter Tryz.func64, Tryz.ntmps64
  go_wp2
  go_loopw [9] (fun i wr => ∃ t : Nat, t ≤ N ∧ i = .int .i64 t ∧ Below w.heap.size w wr ∧ Hid (∀ x, x < t → x % (n + 1) = 0 ∨ f1 x ≤ f2 x))
    (fun i _ => N - (intOf i).toNat)
  case atStart => exact ⟨0, Nat.zero_le _, rfl, Below.refl _ _, fun x hx => absurd hx (Nat.not_lt_zero _)⟩
  case round =>
    obtain ⟨t, ht, rfl, hB, hU⟩ := hrel
    have hsz := hB.size
    by_cases hlt : t < N
    · obtain ⟨x, hHx⟩ : ∃ x, Hid (x = f1 t) := ⟨_, rfl⟩
      obtain ⟨y, hHy⟩ : ∃ y, Hid (y = f2 t) := ⟨_, rfl⟩
      have k1 := (hB.cell (p := ⟨B1, o1 + t, none⟩) hB1).trans (hc1 t hlt)
      have k2 := (hB.cell (p := ⟨B2, o2 + t, none⟩) hB2).trans (hc2 t hlt)
      rw [← hHx.out] at k1
      rw [← hHy.out] at k2
      have u1 : (0 : Int) ≤ (t : Int) := by omega
      have u2 : (t : Int) < (N : Int) := by omega
      have hm : Int.tmod (t : Int) ((n : Int) + 1) = ((t % (n + 1) : Nat) : Int) := by
        rw [Int.tmod_eq_emod_of_nonneg (by omega)]; push_cast; rfl
      go_wp2_with (fail)
      refine (R.out _).mono ?_; rintro e w' ⟨rfl, q1, rfl⟩
      obtain ⟨r, hrr⟩ : ∃ r : Int, r = ((t % (n + 1) : Nat) : Int) := ⟨_, rfl⟩
      rw [← hrr] at hm
      by_cases hr : t % (n + 1) = 0
      · obtain rfl : r = 0 := by rw [hrr, hr]; rfl
        have hHr := Lib.hid hr
        clear hr hrr
        go_wp2
        go_roundw
        case rel => exact ⟨t + 1, hlt, by go_num, by (repeat' (first | (with_reducible assumption) | (with_reducible exact Below.refl _ _) | (with_reducible refine below_wov ?_ ?_ _) | (with_reducible refine below_drewN ?_ _) | (with_reducible refine Below.drew ?_) | (with_reducible refine Below.alloc ?_ ?_ _) | (with_reducible refine Below.setCell ?_ ?_ _) | (with_reducible exact Nat.le_refl _) | omega | (simp only [World.size_alloc, World.size_setCell, World.size_drew, Wov_size, World.heap_drewN]; omega))), fun x hx => by
          rcases Nat.lt_succ_iff_lt_or_eq.1 hx with h | h
          · exact hU.out x h
          · rw [h]; exact .inl hHr.out⟩
        case measure => simp [intOf]; omega
      · have hz2 : (r != 0) = true := by rw [hrr]; simp only [bne_iff_ne, ne_eq]; omega
        clear hrr
        by_cases hle : x ≤ y
        · have hd : decide (y < x) = false := by simp; omega
          have hHl := Lib.hid hle
          clear hr hle
          go_wp2
          go_roundw
          case rel => exact ⟨t + 1, hlt, by go_num, by (repeat' (first | (with_reducible assumption) | (with_reducible exact Below.refl _ _) | (with_reducible refine below_wov ?_ ?_ _) | (with_reducible refine below_drewN ?_ _) | (with_reducible refine Below.drew ?_) | (with_reducible refine Below.alloc ?_ ?_ _) | (with_reducible refine Below.setCell ?_ ?_ _) | (with_reducible exact Nat.le_refl _) | omega | (simp only [World.size_alloc, World.size_setCell, World.size_drew, Wov_size, World.heap_drewN]; omega))), fun x hx => by
            rcases Nat.lt_succ_iff_lt_or_eq.1 hx with h | h
            · exact hU.out x h
            · rw [h]; right; rw [← hHx.out, ← hHy.out]; exact hHl.out⟩
          case measure => simp [intOf]; omega
        · have hd : decide (y < x) = true := by simp; omega
          have hb := Lib.hid (U2.out t hlt hr (by rw [← hHx.out, ← hHy.out]; omega))
          clear hr hle hU U1 U2
          go_wp2
          go_ret
          exact gives_bool hb.out.symm (by (repeat' (first | (with_reducible assumption) | (with_reducible exact Below.refl _ _) | (with_reducible refine below_wov ?_ ?_ _) | (with_reducible refine below_drewN ?_ _) | (with_reducible refine Below.drew ?_) | (with_reducible refine Below.alloc ?_ ?_ _) | (with_reducible refine Below.setCell ?_ ?_ _) | (with_reducible exact Nat.le_refl _) | omega | (simp only [World.size_alloc, World.size_setCell, World.size_drew, Wov_size, World.heap_drewN]; omega))))
    · obtain rfl : t = N := by omega
      have hb := Lib.hid (U1.out hU.out)
      clear U1 U2 hU
      go_wp2
      go_ret
      exact gives_bool hb.out.symm (by (repeat' (first | (with_reducible assumption) | (with_reducible exact Below.refl _ _) | (with_reducible refine below_wov ?_ ?_ _) | (with_reducible refine below_drewN ?_ _) | (with_reducible refine Below.drew ?_) | (with_reducible refine Below.alloc ?_ ?_ _) | (with_reducible refine Below.setCell ?_ ?_ _) | (with_reducible exact Nat.le_refl _) | omega | (simp only [World.size_alloc, World.size_setCell, World.size_drew, Wov_size, World.heap_drewN]; omega))))

theorem inB_none {n : Nat} {f g : Nat → Int} (hok : okD n (n * n) f = true) (h : closeM n (n * n) f = errM 6) : inB n f g = true := by
  unfold inB
  cases hc : closeI n f with
  | none => rfl
  | some c =>
    exfalso
    have : closeM n (n * n) f = ⟨n, n * n, c, 0⟩ := by
      unfold closeM closeR
      rw [hok, if_pos rfl, show ((n : Int)).toNat = n from rfl, hc]; rfl
    rw [this] at h
    have := congrArg MR.e h
    simp [errM] at this
theorem inB_closed {n : Nat} {f g c : Nat → Int} (hok : okD n (n * n) f = true) (h : closeM n (n * n) f = ⟨n, n * n, c, 0⟩) : inB n f g = (diagK n g && underK n c g) := by
  unfold inB
  unfold closeM closeR at h
  rw [hok, if_pos rfl, show ((n : Int)).toNat = n from rfl] at h
  cases hc : closeI n f with
  | none => rw [hc] at h; have := congrArg MR.e h; simp [mR, errM] at this
  | some c' =>
    rw [hc] at h
    have := congrArg MR.f h
    simp only [mR] at this
    rw [this]
theorem diagK_stop {n t : Nat} {g : Nat → Int} (ht : t < n) (h : ¬ 1 ≤ g (t * (n + 1))) : diagK n g = false := by
  rw [← Bool.not_eq_true, diagK_iff]
  exact fun h' => h (h' t ht)
def pairBE (r : Bool × Int) : Value := .tuple #[.bool r.1, .int .i64 r.2]
theorem gives_be {w w' : World} {b : Bool} {c : Int} {r : Bool × Int} (he : r = (b, c)) (h : Below w.heap.size w w') : Gives w (pairBE r) (.returned (.tuple #[.bool b, .int .i64 c])) w' := gives_end (by rw [he]; rfl) h

set_option maxRecDepth 10000 in
set_option maxHeartbeats 2000000 in
theorem in_main (n : Nat) (p1 p2 : Option Addr) (c1 c2 : Nat) (f1 f2 : Nat → Int) (w : World) (hn0 : 1 ≤ n) (hn : n ≤ 4) (hS1 : SlP w p1 (n * n) f1) (hS2 : SlP w p2 (n * n) f2) (hF1 : Fits (n * n) f1) (hF2 : Fits (n * n) f2) (ok1 : okD n (n * n) f1 = true) (ok2 : okD n (n * n) f2 = true) :
    Calls Tryz.prog 35 #[.agg #[.int .i64 n, .slice p1 (n * n) c1], .agg #[.int .i64 n, .slice p2 (n * n) c2]] w (Gives w (pairBE (inB n f1 f2, 0))) := by
  have hq1 : 1 * 1 ≤ n * n := Nat.mul_le_mul hn0 hn0
  have hq0 : n * n ≤ 4 * 4 := Nat.mul_le_mul hn hn
  have hnn : fits64 (n : Int) := by unfold fits64; omega
  have KC : Hid (∀ w', Below w.heap.size w w' → Calls Tryz.prog 63 #[.agg #[.int .i64 n, .slice p1 (n * n) c1], .agg #[.int .i64 n, .slice p2 (n * n) c2]] w' (Gives w' (.int .i64 0))) := fun w' hb => by
    have := inclChecked_any n p1 (n * n) c1 f1 n p2 (n * n) c2 f2 w' hnn hnn (hS1.below hb) (hS2.below hb) hF1 hF2 (by omega) (by omega)
    rwa [show twoE n (n * n) f1 n (n * n) f2 = 0 from by rw [twoE, ok1, ok2]; simp] at this
  have CL : Hid (∀ w', Below w.heap.size w w' → Calls Tryz.prog 25 #[.agg #[.int .i64 n, .slice p1 (n * n) c1]] w' (matC w' (closeM n (n * n) f1).n (closeM n (n * n) f1).N (closeM n (n * n) f1).f (closeM n (n * n) f1).e)) := fun w' hb =>
    closeM_any n p1 (n * n) c1 f1 w' hnn (hS1.below hb) hF1 (by omega)
  rcases closeM_cases ok1 with ⟨c, hc, K⟩ | ⟨hc, _⟩
  · rw [inB_closed ok1 hc]
    rw [hc] at CL
    simp only at CL
    have UN : Hid (∀ w' B cap, Below w.heap.size w w' → SlP w' (some ⟨B, 0, none⟩) (n * n) c → Calls Tryz.prog 64 #[.slice (some ⟨B, 0, none⟩) (n * n) cap, .slice p2 (n * n) c2] w' (Gives w' (.bool (underK n c f2)))) := fun w' B cap hb h =>
      under_any n _ p2 cap c2 c f2 w' hn0 hn h (hS2.below hb)
    have U1 := Lib.hid (fun h => (diagK_iff (n := n) (g := f2)).2 h)
    have U2 := Lib.hid (fun t => diagK_stop (n := n) (t := t) (g := f2))
    obtain ⟨b, hb⟩ : ∃ b, b = diagK n f2 := ⟨_, rfl⟩
    obtain ⟨u, hu⟩ : ∃ u, u = underK n c f2 := ⟨_, rfl⟩
    rw [← hb] at U1 U2 ⊢
    rw [← hu] at UN ⊢
    obtain ⟨B2, o2, rfl, hB2, hc2⟩ := hS2.pos (by omega)
    have hC2 := Lib.hid hc2
    have hdg : Hid (∀ t, t < n → t * (n + 1) < n * n ∧ (t : Int) * ((n : Int) + 1) = ((t * (n + 1) : Nat) : Int)) := fun t ht => ⟨by
      have := place_lt ht ht
      rw [Nat.mul_add, Nat.mul_one]; exact this, by push_cast; rfl⟩
    obtain ⟨N, hN⟩ : ∃ N, N = n * n := ⟨_, rfl⟩
    rw [← hN] at KC CL UN hC2 hq0 hq1 hdg ⊢
    clear hb hu hN hS1 hS2 hF1 hF2 hc K hc2 ok1 ok2
    go_enter Tryz.func35, Tryz.ntmps35
    go_wp2_with (fail)
    refine (KC.out _ (by (repeat' (first | (with_reducible assumption) | (with_reducible exact Below.refl _ _) | (with_reducible refine below_wov ?_ ?_ _) | (with_reducible refine below_drewN ?_ _) | (with_reducible refine Below.drew ?_) | (with_reducible refine Below.alloc ?_ ?_ _) | (with_reducible refine Below.setCell ?_ ?_ _) | (with_reducible exact Nat.le_refl _) | omega | (simp only [World.size_alloc, World.size_setCell, World.size_drew, Wov_size, World.heap_drewN]; omega))))).mono ?_; rintro e w' ⟨rfl, q1, rfl⟩
    go_wp2_with (fail)
    refine calls_world (fun W => Below w.heap.size w W ∧ w.heap.size + 1 < W.heap.size ∧ W.cell? ⟨w.heap.size + 1, 0, none⟩ = some (.int .i64 n) ∧ W.cell? ⟨w.heap.size + 1, 1, none⟩ = some (.slice (some ⟨B2, o2, none⟩) N c2)) ⟨by (repeat' (first | (with_reducible assumption) | (with_reducible exact Below.refl _ _) | (with_reducible refine below_wov ?_ ?_ _) | (with_reducible refine below_drewN ?_ _) | (with_reducible refine Below.drew ?_) | (with_reducible refine Below.alloc ?_ ?_ _) | (with_reducible refine Below.setCell ?_ ?_ _) | (with_reducible exact Nat.le_refl _) | omega | (simp only [World.size_alloc, World.size_setCell, World.size_drew, Wov_size, World.heap_drewN]; omega))), by (first | omega | ((simp only [World.size_alloc, World.size_setCell, World.size_drew, Wov_size, World.heap_drewN, Array.size_append]) <;> omega)), by ((repeat (first | (with_reducible refine Eq.trans (World.cell?_drewN _ _ _) ?_) | (with_reducible refine Eq.trans (World.cell?_drew _ _) ?_) | (with_reducible refine Eq.trans (World.cell?_alloc_past _ _ _ ?hsz) ?_; case hsz => (first | omega | ((simp only [World.size_alloc, World.size_setCell, World.size_drew, Wov_size, World.heap_drewN, Array.size_append]) <;> omega))) | (with_reducible refine Eq.trans (Wov_cell_past _ _ _ _ ?hsz) ?_; case hsz => (first | omega | ((simp only [World.size_alloc, World.size_setCell, World.size_drew, Wov_size, World.heap_drewN, Array.size_append]) <;> omega))) | (with_reducible refine Eq.trans (World.cell?_alloc_at _ _ _ _ ?hsz) ?_; case hsz => (first | omega | ((simp only [World.size_alloc, World.size_setCell, World.size_drew, Wov_size, World.heap_drewN, Array.size_append]) <;> omega))))) <;> first | rfl | assumption | (simp; done)), by ((repeat (first | (with_reducible refine Eq.trans (World.cell?_drewN _ _ _) ?_) | (with_reducible refine Eq.trans (World.cell?_drew _ _) ?_) | (with_reducible refine Eq.trans (World.cell?_alloc_past _ _ _ ?hsz) ?_; case hsz => (first | omega | ((simp only [World.size_alloc, World.size_setCell, World.size_drew, Wov_size, World.heap_drewN, Array.size_append]) <;> omega))) | (with_reducible refine Eq.trans (Wov_cell_past _ _ _ _ ?hsz) ?_; case hsz => (first | omega | ((simp only [World.size_alloc, World.size_setCell, World.size_drew, Wov_size, World.heap_drewN, Array.size_append]) <;> omega))) | (with_reducible refine Eq.trans (World.cell?_alloc_at _ _ _ _ ?hsz) ?_; case hsz => (first | omega | ((simp only [World.size_alloc, World.size_setCell, World.size_drew, Wov_size, World.heap_drewN, Array.size_append]) <;> omega))))) <;> first | rfl | assumption | (simp; done))⟩ ?_
    rintro W1 ⟨hb1, z1, k0, k1⟩
    refine (CL.out W1 hb1).mono ?_; rintro e w' ⟨⟨p3, c3, rfl, ho⟩, q3, rfl⟩
    have hsp := ho.slp
    obtain ⟨B3, rfl, hB3a, hB3b, hH3⟩ := ho.resolve_left (by omega)
    have hsp := Lib.hid hsp
    have hs1 := hb1.size
    clear ho hH3 hB3a hB3b
    go_wp2
    obtain ⟨A, hA⟩ : ∃ A, W1.heap.size + q3.bl.size = A := ⟨_, rfl⟩
    rw [hA]
    refine wp_world (fun W => Below w.heap.size w W ∧ w.heap.size + 1 < W.heap.size ∧ A < W.heap.size ∧ W.cell? ⟨w.heap.size + 1, 0, none⟩ = some (.int .i64 n) ∧ W.cell? ⟨w.heap.size + 1, 1, none⟩ = some (.slice (some ⟨B2, o2, none⟩) N c2) ∧ W.cell? ⟨A, 1, none⟩ = some (.slice (some ⟨B3, 0, none⟩) N c3) ∧ SlP W (some ⟨B3, 0, none⟩) N c) ⟨by (repeat' (first | (with_reducible assumption) | (with_reducible exact Below.refl _ _) | (with_reducible refine below_wov ?_ ?_ _) | (with_reducible refine below_drewN ?_ _) | (with_reducible refine Below.drew ?_) | (with_reducible refine Below.alloc ?_ ?_ _) | (with_reducible refine Below.setCell ?_ ?_ _) | (with_reducible exact Nat.le_refl _) | omega | (simp only [World.size_alloc, World.size_setCell, World.size_drew, Wov_size, World.heap_drewN]; omega))), by (first | omega | ((simp only [World.size_alloc, World.size_setCell, World.size_drew, Wov_size, World.heap_drewN, Array.size_append]) <;> omega)), by rw [← hA]; (first | omega | ((simp only [World.size_alloc, World.size_setCell, World.size_drew, Wov_size, World.heap_drewN, Array.size_append]) <;> omega)), by simp [go_sem, z1, k0], by simp [go_sem, z1, k1], by rw [← hA]; simp [go_sem], hsp.out.below (by (repeat' (first | (with_reducible assumption) | (with_reducible exact Below.refl _ _) | (with_reducible refine below_wov ?_ ?_ _) | (with_reducible refine below_drewN ?_ _) | (with_reducible refine Below.drew ?_) | (with_reducible refine Below.alloc ?_ ?_ _) | (with_reducible refine Below.setCell ?_ ?_ _) | (with_reducible exact Nat.le_refl _) | omega | (simp only [World.size_alloc, World.size_setCell, World.size_drew, Wov_size, World.heap_drewN]; omega))))⟩ ?_
    rintro W ⟨hB, z1, zA, k0, k1, kA, hsp⟩
    have hsz := hB.size
    have hSP := Lib.hid hsp
    have SU := Lib.hid (UN.out W B3 c3 hB hsp)
    have hD : Hid (∀ t, t < n → W.cell? ⟨B2, o2 + t * (n + 1), none⟩ = some (.int .i64 (f2 (t * (n + 1))))) := fun t ht => (hB.cell (p := ⟨B2, o2 + t * (n + 1), none⟩) hB2).trans (hC2.out _ (hdg.out t ht).1)
    clear hsp hA KC CL UN hC2 hSP hb1 hs1
    go_loopw [26] (fun i wr => ∃ t : Nat, t ≤ n ∧ i = .int .i64 t ∧ wr = W ∧ Hid (∀ x, x < t → 1 ≤ f2 (x * (n + 1))))
      (fun i _ => n - (intOf i).toNat)
    case atStart => exact ⟨0, Nat.zero_le _, rfl, rfl, fun x hx => absurd hx (Nat.not_lt_zero _)⟩
    case round =>
      obtain ⟨t, ht, rfl, rfl, hU⟩ := hrel
      by_cases hlt : t < n
      · obtain ⟨hm1, hm2⟩ := hdg.out t hlt
        have kd := hD.out t hlt
        obtain ⟨q, hHq⟩ : ∃ q : Nat, Hid (q = t * (n + 1)) := ⟨_, rfl⟩
        rw [← hHq.out] at hm1 hm2 kd
        obtain ⟨v, hHv⟩ : ∃ v, Hid (v = f2 q) := ⟨_, rfl⟩
        rw [← hHv.out] at kd
        have u1 : (0 : Int) ≤ (q : Int) := by omega
        have u2 : (q : Int) < (N : Int) := by omega
        have u3 : IntKind.i64.wrap ((n : Int) + 1) = (n : Int) + 1 := IntWalk.i64_in _ (by omega)
        by_cases hle : 1 ≤ v
        · have hd : decide (v < 1) = false := by simp; omega
          have hHl := Lib.hid hle
          clear hle
          go_wp2
          go_roundw
          case rel => exact ⟨t + 1, hlt, by go_num, by first | trivial | rfl, fun x hx => by
            rcases Nat.lt_succ_iff_lt_or_eq.1 hx with h | h
            · exact hU.out x h
            · rw [h, ← hHq.out, ← hHv.out]; exact hHl.out⟩
          case measure => simp [intOf]; omega
        · have hd : decide (v < 1) = true := by simp; omega
          have hb := Lib.hid (U2.out t hlt (by rw [← hHq.out, ← hHv.out]; omega))
          clear hle hU U1 U2
          go_wp2
          go_returns
          exact gives_be (by rw [hb.out]; rfl) (by (repeat' (first | (with_reducible assumption) | (with_reducible exact Below.refl _ _) | (with_reducible refine below_wov ?_ ?_ _) | (with_reducible refine below_drewN ?_ _) | (with_reducible refine Below.drew ?_) | (with_reducible refine Below.alloc ?_ ?_ _) | (with_reducible refine Below.setCell ?_ ?_ _) | (with_reducible exact Nat.le_refl _) | omega | (simp only [World.size_alloc, World.size_setCell, World.size_drew, Wov_size, World.heap_drewN]; omega))))
      · obtain rfl : t = n := by omega
        have hb := Lib.hid (U1.out hU.out)
        clear U1 U2 hU hD hdg
        go_wp2_with (fail)
        refine SU.out.mono ?_; rintro e w' ⟨rfl, qz, rfl⟩
        go_wp2
        go_returns
        exact gives_be (by rw [hb.out]; rfl) (by (repeat' (first | (with_reducible assumption) | (with_reducible exact Below.refl _ _) | (with_reducible refine below_wov ?_ ?_ _) | (with_reducible refine below_drewN ?_ _) | (with_reducible refine Below.drew ?_) | (with_reducible refine Below.alloc ?_ ?_ _) | (with_reducible refine Below.setCell ?_ ?_ _) | (with_reducible exact Nat.le_refl _) | omega | (simp only [World.size_alloc, World.size_setCell, World.size_drew, Wov_size, World.heap_drewN]; omega))))
  · rw [inB_none ok1 hc]
    rw [hc] at CL
    have CL2 : Hid (∀ w', Below w.heap.size w w' → Calls Tryz.prog 25 #[.agg #[.int .i64 n, .slice p1 (n * n) c1]] w' (matC w' 0 0 (fun _ => 0) 6)) := fun w' hb => CL.out w' hb
    obtain ⟨N, hN⟩ : ∃ N, N = n * n := ⟨_, rfl⟩
    rw [← hN] at KC CL2 hq0 hq1 ⊢
    clear hN hS1 hS2 hF1 hF2 hc CL ok1 ok2
    go_enter Tryz.func35, Tryz.ntmps35
    go_wp2_with (fail)
    refine (KC.out _ (by (repeat' (first | (with_reducible assumption) | (with_reducible exact Below.refl _ _) | (with_reducible refine below_wov ?_ ?_ _) | (with_reducible refine below_drewN ?_ _) | (with_reducible refine Below.drew ?_) | (with_reducible refine Below.alloc ?_ ?_ _) | (with_reducible refine Below.setCell ?_ ?_ _) | (with_reducible exact Nat.le_refl _) | omega | (simp only [World.size_alloc, World.size_setCell, World.size_drew, Wov_size, World.heap_drewN]; omega))))).mono ?_; rintro e w' ⟨rfl, q1, rfl⟩
    go_wp2_with (fail)
    refine (CL2.out _ (by (repeat' (first | (with_reducible assumption) | (with_reducible exact Below.refl _ _) | (with_reducible refine below_wov ?_ ?_ _) | (with_reducible refine below_drewN ?_ _) | (with_reducible refine Below.drew ?_) | (with_reducible refine Below.alloc ?_ ?_ _) | (with_reducible refine Below.setCell ?_ ?_ _) | (with_reducible exact Nat.le_refl _) | omega | (simp only [World.size_alloc, World.size_setCell, World.size_drew, Wov_size, World.heap_drewN]; omega))))).mono ?_; rintro e w' ⟨⟨p3, c3, rfl, ho⟩, q3, rfl⟩
    clear ho
    go_wp2
    go_returns
    exact gives_be rfl (by (repeat' (first | (with_reducible assumption) | (with_reducible exact Below.refl _ _) | (with_reducible refine below_wov ?_ ?_ _) | (with_reducible refine below_drewN ?_ _) | (with_reducible refine Below.drew ?_) | (with_reducible refine Below.alloc ?_ ?_ _) | (with_reducible refine Below.setCell ?_ ?_ _) | (with_reducible exact Nat.le_refl _) | omega | (simp only [World.size_alloc, World.size_setCell, World.size_drew, Wov_size, World.heap_drewN]; omega))))

theorem twoE_cases (n1 : Int) (N1 : Nat) (f1 : Nat → Int) (n2 : Int) (N2 : Nat) (f2 : Nat → Int) :
    (twoE n1 N1 f1 n2 N2 f2 ≠ 0 ∧ (twoE n1 N1 f1 n2 N2 f2 = 8 ∨ twoE n1 N1 f1 n2 N2 f2 = 40)) ∨
    (∃ m : Nat, n1 = (m : Int) ∧ n2 = (m : Int) ∧ N1 = m * m ∧ N2 = m * m ∧ 1 ≤ m ∧ m ≤ 4 ∧ okD m (m * m) f1 = true ∧ okD m (m * m) f2 = true ∧ twoE n1 N1 f1 n2 N2 f2 = 0) := by
  unfold twoE
  cases o1 : okD n1 N1 f1
  · left; simp
  · cases o2 : okD n2 N2 f2
    · left; simp
    · by_cases e : n1 = n2
      · right
        subst e
        obtain ⟨m, rfl, rfl, h1, h2⟩ := okD_form o1
        obtain ⟨m', h, rfl, _, _⟩ := okD_form o2
        obtain rfl : m = m' := by omega
        exact ⟨m, rfl, rfl, rfl, rfl, h1, h2, o1, o2, by simp⟩
      · left; simp [e]
theorem inR_ok {n : Nat} {f1 f2 : Nat → Int} (h : twoE n (n * n) f1 n (n * n) f2 = 0) : inR n (n * n) f1 n (n * n) f2 = (inB n f1 f2, 0) := by
  unfold inR; rw [if_pos h]; rfl
theorem inR_bad {n1 : Int} {N1 : Nat} {f1 : Nat → Int} {n2 : Int} {N2 : Nat} {f2 : Nat → Int} (h : twoE n1 N1 f1 n2 N2 f2 ≠ 0) : inR n1 N1 f1 n2 N2 f2 = (false, twoE n1 N1 f1 n2 N2 f2) := if_neg h
theorem apR_ok {n1 : Int} {N1 : Nat} {f1 : Nat → Int} {n2 : Int} {N2 : Nat} {f2 : Nat → Int} (h : twoE n1 N1 f1 n2 N2 f2 = 0) : apR n1 N1 f1 n2 N2 f2 = (decide ((meetM n1 N1 f1 n2 N2 f2).e = 6), 0) := if_pos h
theorem apR_bad {n1 : Int} {N1 : Nat} {f1 : Nat → Int} {n2 : Int} {N2 : Nat} {f2 : Nat → Int} (h : twoE n1 N1 f1 n2 N2 f2 ≠ 0) : apR n1 N1 f1 n2 N2 f2 = (false, twoE n1 N1 f1 n2 N2 f2) := if_neg h

set_option maxRecDepth 10000 in
set_option maxHeartbeats 2000000 in
theorem in_any (n1 : Int) (p1 : Option Addr) (N1 c1 : Nat) (f1 : Nat → Int) (n2 : Int) (p2 : Option Addr) (N2 c2 : Nat) (f2 : Nat → Int) (w : World) (hn1 : fits64 n1) (hn2 : fits64 n2) (hS1 : SlP w p1 N1 f1) (hS2 : SlP w p2 N2 f2) (hF1 : Fits N1 f1) (hF2 : Fits N2 f2) (hN1 : N1 ≤ 1000000) (hN2 : N2 ≤ 1000000) :
    Calls Tryz.prog 35 #[.agg #[.int .i64 n1, .slice p1 N1 c1], .agg #[.int .i64 n2, .slice p2 N2 c2]] w (Gives w (pairBE (inR n1 N1 f1 n2 N2 f2))) := by
  rcases twoE_cases n1 N1 f1 n2 N2 f2 with ⟨hne, _⟩ | ⟨m, rfl, rfl, rfl, rfl, hm0, hm4, o1, o2, hz⟩
  · rw [inR_bad hne]
    have KC : Hid (∀ w', Below w.heap.size w w' → Calls Tryz.prog 63 #[.agg #[.int .i64 n1, .slice p1 N1 c1], .agg #[.int .i64 n2, .slice p2 N2 c2]] w' (Gives w' (.int .i64 (twoE n1 N1 f1 n2 N2 f2)))) := fun w' hb =>
      inclChecked_any n1 p1 N1 c1 f1 n2 p2 N2 c2 f2 w' hn1 hn2 (hS1.below hb) (hS2.below hb) hF1 hF2 hN1 hN2
    have hb : (twoE n1 N1 f1 n2 N2 f2 != 0) = true := by rw [bne_iff_ne]; exact hne
    obtain ⟨e0, he0⟩ : ∃ e0, e0 = twoE n1 N1 f1 n2 N2 f2 := ⟨_, rfl⟩
    rw [← he0] at KC hb ⊢
    clear he0 hne hS1 hS2 hF1 hF2
    go_enter Tryz.func35, Tryz.ntmps35
    go_wp2_with (fail)
    refine (KC.out _ (by (repeat' (first | (with_reducible assumption) | (with_reducible exact Below.refl _ _) | (with_reducible refine below_wov ?_ ?_ _) | (with_reducible refine below_drewN ?_ _) | (with_reducible refine Below.drew ?_) | (with_reducible refine Below.alloc ?_ ?_ _) | (with_reducible refine Below.setCell ?_ ?_ _) | (with_reducible exact Nat.le_refl _) | omega | (simp only [World.size_alloc, World.size_setCell, World.size_drew, Wov_size, World.heap_drewN]; omega))))).mono ?_; rintro e w' ⟨rfl, q1, rfl⟩
    go_wp2
    go_returns
    exact gives_be rfl (by (repeat' (first | (with_reducible assumption) | (with_reducible exact Below.refl _ _) | (with_reducible refine below_wov ?_ ?_ _) | (with_reducible refine below_drewN ?_ _) | (with_reducible refine Below.drew ?_) | (with_reducible refine Below.alloc ?_ ?_ _) | (with_reducible refine Below.setCell ?_ ?_ _) | (with_reducible exact Nat.le_refl _) | omega | (simp only [World.size_alloc, World.size_setCell, World.size_drew, Wov_size, World.heap_drewN]; omega))))
  · rw [inR_ok hz]
    exact in_main m p1 p2 c1 c2 f1 f2 w hm0 hm4 hS1 hS2 hF1 hF2 o1 o2

end Go.Proofs.YtpaomeilfmeheaaGreat
