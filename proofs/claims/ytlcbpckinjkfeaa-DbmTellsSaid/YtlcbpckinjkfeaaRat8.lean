/- Contract of rat.Keeps. No condition but that numbers are of their kind. -/
import Derived.Test.YtlcbpckinjkfeaaRat7
namespace Go.Proofs.Ytlcbpckinjkfeaa
set_option linter.unusedSimpArgs false
set_option linter.unusedVariables false
open Go Go.RowKit

/-- Whether a difference of two that may be keeps a bound that may. -/
def keptB (n1 d1 n2 d2 x : Int) : Bool :=
  decide (x = noneB) || (decide (n1 * d2 - n2 * d1 < bnum x * (d1 * d2)) || (decide (n1 * d2 - n2 * d1 = bnum x * (d1 * d2)) && !bstr x))

theorem mul_lt_iff {W E A B : Int} (hA0 : 0 ≤ A) (hA : A < E) (hB0 : 0 ≤ B) (hB : B < E) : (W * E + A - B < 0 ↔ W < 0 ∨ W = 0 ∧ A < B) ∧ (W * E + A - B = 0 ↔ W = 0 ∧ A = B) := by
  rcases Int.lt_trichotomy W 0 with h | h | h
  · have : W * E ≤ -1 * E := Int.mul_le_mul_of_nonneg_right (by omega) (by omega)
    omega
  · subst h; omega
  · have : 1 * E ≤ W * E := Int.mul_le_mul_of_nonneg_right (by omega) (by omega)
    omega

/-- Whole parts first, then what is left over: as the code and the document ask it. -/
theorem kept_parts {n1 d1 n2 d2 c : Int} (h1 : 0 < d1) (h2 : 0 < d2) :
    (n1 * d2 - n2 * d1 < c * (d1 * d2) ↔ n1 / d1 - n2 / d2 < c ∨ n1 / d1 - n2 / d2 = c ∧ n1 % d1 * d2 < n2 % d2 * d1) ∧
    (n1 * d2 - n2 * d1 = c * (d1 * d2) ↔ n1 / d1 - n2 / d2 = c ∧ n1 % d1 * d2 = n2 % d2 * d1) := by
  have eX := Int.mul_ediv_add_emod n1 d1
  have eY := Int.mul_ediv_add_emod n2 d2
  have hR := emod_bd n1 d1 h1
  have hS := emod_bd n2 d2 h2
  have a0 : 0 ≤ n1 % d1 * d2 := Int.mul_nonneg hR.1 (by omega)
  have a1 : n1 % d1 * d2 < d1 * d2 := Int.mul_lt_mul_of_pos_right hR.2 h2
  have b0 : 0 ≤ n2 % d2 * d1 := Int.mul_nonneg hS.1 (by omega)
  have b1 : n2 % d2 * d1 < d1 * d2 := by rw [Int.mul_comm d1 d2]; exact Int.mul_lt_mul_of_pos_right hS.2 h1
  have key := mul_lt_iff (W := n1 / d1 - n2 / d2 - c) (E := d1 * d2) a0 a1 b0 b1
  have t1 : n1 * d2 = n1 / d1 * (d1 * d2) + n1 % d1 * d2 := by
    conv => lhs; rw [← eX]
    rw [Int.add_mul, Int.mul_comm d1, Int.mul_assoc]
  have t2 : n2 * d1 = n2 / d2 * (d1 * d2) + n2 % d2 * d1 := by
    conv => lhs; rw [← eY]
    rw [Int.add_mul, Int.mul_comm d2 (n2 / d2), Int.mul_assoc, Int.mul_comm d2 d1]
  have t3 : (n1 / d1 - n2 / d2 - c) * (d1 * d2) = n1 / d1 * (d1 * d2) - n2 / d2 * (d1 * d2) - c * (d1 * d2) := by rw [Int.sub_mul, Int.sub_mul]
  rw [t3] at key
  rw [t1, t2]
  generalize n1 % d1 * d2 = A at *
  generalize n2 % d2 * d1 = B at *
  generalize n1 / d1 * (d1 * d2) = U at *
  generalize n2 / d2 * (d1 * d2) = V at *
  generalize c * (d1 * d2) = Z at *
  omega

def keepsPR (n1 d1 n2 d2 x : Int) : Bool × Int := if okRat n1 d1 && okRat n2 d2 && okB x then (keptB n1 d1 n2 d2 x, 0) else (false, 8)

set_option maxHeartbeats 400000 in
theorem k1_any (r d2 s d1 nb na : Int) (b1 b2 b3 b4 : Nat) (w : World) (hA : 0 ≤ r * d2 ∧ r * d2 ≤ 1099511627776) (hB : 0 ≤ s * d1 ∧ s * d1 ≤ 1099511627776)
    (c1 : w.cell? ⟨b1, 0, none⟩ = some (.int .i64 r)) (c2 : w.cell? ⟨b2, 0, none⟩ = some (.int .i64 nb)) (c2' : w.cell? ⟨b2, 1, none⟩ = some (.int .i64 d2)) (c3 : w.cell? ⟨b3, 0, none⟩ = some (.int .i64 s)) (c4 : w.cell? ⟨b4, 0, none⟩ = some (.int .i64 na)) (c4' : w.cell? ⟨b4, 1, none⟩ = some (.int .i64 d1)) :
    Calls Try.prog 81 #[.pointer (some ⟨b1, 0, none⟩), .pointer (some ⟨b2, 0, none⟩), .pointer (some ⟨b3, 0, none⟩), .pointer (some ⟨b4, 0, none⟩)] w (Gives w (.int .i64 (sgn3 (r * d2) (s * d1) 0))) := by
  obtain ⟨a1, a2⟩ := hA
  obtain ⟨a3, a4⟩ := hB
  have M := Lib.hid (fun w => cmpInt_any (r * d2) (s * d1) w)
  obtain ⟨A, hA⟩ : ∃ A, r * d2 = A := ⟨_, rfl⟩
  obtain ⟨B, hB⟩ : ∃ B, s * d1 = B := ⟨_, rfl⟩
  rw [hA, hB] at M ⊢
  rw [hA] at a1 a2
  rw [hB] at a3 a4
  go_enter Try.func81, Try.ntmps81
  go_wp2_with (fail)
  refine (M.out _).mono ?_; rintro e w' ⟨rfl, rfl⟩
  go_wp2
  go_ret
  exact gives_int rfl (by (repeat' (first | (with_reducible assumption) | (with_reducible exact Below.refl _ _) | (with_reducible refine below_wov ?_ ?_ _) | (with_reducible refine below_drewN ?_ _) | (with_reducible refine Below.drew ?_) | (with_reducible refine Below.alloc ?_ ?_ _) | (with_reducible refine Below.setCell ?_ ?_ _) | (with_reducible exact Nat.le_refl _) | omega | (simp only [World.size_alloc, World.size_setCell, World.size_drew, Wov_size, World.heap_drewN]; omega))))

theorem keeps_sign (X Y c A B : Int) : ((X - Y < c ∨ X - Y = c ∧ A < B) ↔ sgn3 (X - Y) c (sgn3 A B 0) < 0) ∧ ((X - Y = c ∧ A = B) ↔ sgn3 (X - Y) c (sgn3 A B 0) = 0) := by
  unfold sgn3
  constructor <;> (repeat split) <;> omega
theorem or_and_dec {p q : Prop} [Decidable p] [Decidable q] {p' q' : Prop} [Decidable p'] [Decidable q'] (s : Bool) (h : p ↔ p') (g : q ↔ q') : (decide p || (decide q && !s)) = (decide p' || (decide q' && !s)) := by
  rw [decide_eq_decide.2 h, decide_eq_decide.2 g]

set_option maxRecDepth 10000 in
set_option maxHeartbeats 2000000 in
theorem ratKeeps_any (n1 d1 n2 d2 x : Int) (h1 : fits64 n1) (h2 : fits64 n2) (h3 : fits64 x) :
    Pure Try.prog 24 #[.agg #[.int .i64 n1, .int .i64 d1], .agg #[.int .i64 n2, .int .i64 d2], .int .i64 x] (bpair (keepsPR n1 d1 n2 d2 x)) := by
  intro w
  have K := Lib.hid (fun b w => checked_any n1 d1 n2 d2 b h1.1 h1.2 h2.1 h2.2 w)
  cases hk : okRat n1 d1 && okRat n2 d2
  · have R : Hid (keepsPR n1 d1 n2 d2 x = (false, 8)) := by show _ = _; rw [keepsPR, hk]; rfl
    rw [hk, show rcode false = 8 from rfl] at K
    clear hk h1 h2 h3
    go_enter Try.func24, Try.ntmps24
    go_wp2_with (fail)
    refine (K.out _ _ ?_ ?_ ?_ ?_).mono ?_
    · simp [go_sem]
    · simp [go_sem]
    · simp [go_sem]
    · simp [go_sem]
    rintro e w' ⟨rfl, p, rfl⟩
    go_wp2
    go_ret2
    exact gives_bpair R.out (by (repeat' (first | (with_reducible assumption) | (with_reducible exact Below.refl _ _) | (with_reducible refine below_wov ?_ ?_ _) | (with_reducible refine below_drewN ?_ _) | (with_reducible refine Below.drew ?_) | (with_reducible refine Below.alloc ?_ ?_ _) | (with_reducible refine Below.setCell ?_ ?_ _) | (with_reducible exact Nat.le_refl _) | omega | (simp only [World.size_alloc, World.size_setCell, World.size_drew, Wov_size, World.heap_drewN]; omega))))
  · rw [hk, show rcode true = 0 from rfl] at K
    cases hx : okB x
    · have R : Hid (keepsPR n1 d1 n2 d2 x = (false, 8)) := by show _ = _; rw [keepsPR, hk, hx]; rfl
      have C := boundCheck_bad h3.1 h3.2 hx
      clear hk hx h1 h2 h3
      go_enter Try.func24, Try.ntmps24
      go_wp2_with (fail)
      refine (K.out _ _ ?_ ?_ ?_ ?_).mono ?_
      · simp [go_sem]
      · simp [go_sem]
      · simp [go_sem]
      · simp [go_sem]
      rintro e w' ⟨rfl, p, rfl⟩
      go_wp2_with (fail)
      refine (C _).mono ?_; rintro e w' ⟨rfl, p2, rfl⟩
      go_wp2
      go_ret2
      exact gives_bpair R.out (by (repeat' (first | (with_reducible assumption) | (with_reducible exact Below.refl _ _) | (with_reducible refine below_wov ?_ ?_ _) | (with_reducible refine below_drewN ?_ _) | (with_reducible refine Below.drew ?_) | (with_reducible refine Below.alloc ?_ ?_ _) | (with_reducible refine Below.setCell ?_ ?_ _) | (with_reducible exact Nat.le_refl _) | omega | (simp only [World.size_alloc, World.size_setCell, World.size_drew, Wov_size, World.heap_drewN]; omega))))
    · have R0 : keepsPR n1 d1 n2 d2 x = (keptB n1 d1 n2 d2 x, 0) := by rw [keepsPR, hk, hx]; rfl
      have C := boundCheck_ok h3.1 h3.2 hx
      by_cases hn : x = noneB
      · have R : Hid (keepsPR n1 d1 n2 d2 x = (true, 0)) := by show _ = _; rw [R0, keptB, hn]; simp
        have V := value_none
        have e : x = 9223372036854775807 := hn
        subst e
        clear hk hx hn R0 h1 h2 h3
        go_enter Try.func24, Try.ntmps24
        go_wp2_with (fail)
        refine (K.out _ _ ?_ ?_ ?_ ?_).mono ?_
        · simp [go_sem]
        · simp [go_sem]
        · simp [go_sem]
        · simp [go_sem]
        rintro e w' ⟨rfl, p, rfl⟩
        go_wp2_with (fail)
        refine (C _).mono ?_; rintro e w' ⟨rfl, p2, rfl⟩
        go_wp2_with (fail)
        refine (V _).mono ?_; rintro e w' ⟨rfl, p3, rfl⟩
        go_wp2
        go_ret2
        exact gives_bpair R.out (by (repeat' (first | (with_reducible assumption) | (with_reducible exact Below.refl _ _) | (with_reducible refine below_wov ?_ ?_ _) | (with_reducible refine below_drewN ?_ _) | (with_reducible refine Below.drew ?_) | (with_reducible refine Below.alloc ?_ ?_ _) | (with_reducible refine Below.setCell ?_ ?_ _) | (with_reducible exact Nat.le_refl _) | omega | (simp only [World.size_alloc, World.size_setCell, World.size_drew, Wov_size, World.heap_drewN]; omega))))
      · have V := value_ok h3.1 h3.2 hx hn
        have ho : okRat n1 d1 = true ∧ okRat n2 d2 = true := by simpa using hk
        obtain ⟨p1, p2, p3, p4⟩ := okRat_bd ho.1
        obtain ⟨q1, q2, q3, q4⟩ := okRat_bd ho.2
        have hX := withinB_bd p3
        have hY := withinB_bd q3
        have hRr := emod_bd n1 d1 (by omega)
        have hS := emod_bd n2 d2 (by omega)
        have hA := mul_bd (a := n1 % d1) (b := d2) (M := 1048576) (K := 1048576) hRr.1 (by omega) (by omega) q2
        have hB := mul_bd (a := n2 % d2) (b := d1) (M := 1048576) (K := 1048576) hS.1 (by omega) (by omega) p2
        have F1 := Lib.hid (fun w => floor_any n1 d1 w h1.1 h1.2 (by omega) (by omega))
        have F2 := Lib.hid (fun w => floor_any n2 d2 w h2.1 h2.2 (by omega) (by omega))
        have kp := kept_parts (n1 := n1) (d1 := d1) (n2 := n2) (d2 := d2) (c := bnum x) (by omega) (by omega)
        have hkept : keptB n1 d1 n2 d2 x = (decide (sgn3 (n1 / d1 - n2 / d2) (bnum x) (sgn3 (n1 % d1 * d2) (n2 % d2 * d1) 0) < 0) || (decide (sgn3 (n1 / d1 - n2 / d2) (bnum x) (sgn3 (n1 % d1 * d2) (n2 % d2 * d1) 0) = 0) && !bstr x)) := by
          have ks := keeps_sign (n1 / d1) (n2 / d2) (bnum x) (n1 % d1 * d2) (n2 % d2 * d1)
          rw [keptB, decide_eq_false hn, Bool.false_or]
          exact or_and_dec _ (kp.1.trans ks.1) (kp.2.trans ks.2)
        have K1 := Lib.hid (fun (b1 b2 b3 b4 : Nat) w => k1_any (n1 % d1) d2 (n2 % d2) d1 n2 n1 b1 b2 b3 b4 w ⟨hA.1, by omega⟩ ⟨hB.1, by omega⟩)
        obtain ⟨X, hXe⟩ : ∃ X, X = n1 / d1 := ⟨_, rfl⟩
        obtain ⟨Y, hYe⟩ : ∃ Y, Y = n2 / d2 := ⟨_, rfl⟩
        obtain ⟨r, hre⟩ : ∃ r, r = n1 % d1 := ⟨_, rfl⟩
        obtain ⟨s, hse⟩ : ∃ s, s = n2 % d2 := ⟨_, rfl⟩
        obtain ⟨c, hce⟩ : ∃ c, c = bnum x := ⟨_, rfl⟩
        obtain ⟨t, hte⟩ : ∃ t, t = bstr x := ⟨_, rfl⟩
        have nb := okB_num hx hn
        rw [← hXe, ← hre] at F1
        rw [← hYe, ← hse] at F2
        rw [← hre, ← hse] at K1
        rw [← hce, ← hte] at V
        rw [← hXe] at hX
        rw [← hYe] at hY
        rw [← hXe, ← hYe, ← hre, ← hse, ← hce, ← hte] at hkept
        obtain ⟨f2, hf2⟩ : ∃ f2, f2 = sgn3 (r * d2) (s * d1) 0 := ⟨_, rfl⟩
        rw [← hf2] at K1 hkept
        obtain ⟨sg, hsg⟩ : ∃ sg, sg = sgn3 (X - Y) c f2 := ⟨_, rfl⟩
        have FF := Lib.hid (fun (p1 p2 p3 p4 : Addr) (w : World) => first_k1 (X - Y) c f2 p1 p2 p3 p4 w)
        rw [← hsg] at FF hkept
        have R : Hid (keepsPR n1 d1 n2 d2 x = (decide (sg < 0) || (decide (sg = 0) && !t), 0)) := by show _ = _; rw [R0, hkept]
        obtain ⟨x1, x2⟩ := hX
        obtain ⟨y1, y2⟩ := hY
        clear hk hx hn R0 h1 h2 h3 ho p1 p2 p3 p4 q1 q2 q3 q4 hRr hS hA hB kp hkept nb hXe hYe hre hse hce hte hf2 hsg
        go_enter Try.func24, Try.ntmps24
        go_wp2_with (fail)
        refine (K.out _ _ ?_ ?_ ?_ ?_).mono ?_
        · simp [go_sem]
        · simp [go_sem]
        · simp [go_sem]
        · simp [go_sem]
        rintro e w' ⟨rfl, p, rfl⟩
        go_wp2_with (fail)
        refine (C _).mono ?_; rintro e w' ⟨rfl, p2, rfl⟩
        go_wp2_with (fail)
        refine (V _).mono ?_; rintro e w' ⟨rfl, p3, rfl⟩
        go_wp2_with (fail)
        refine (F1.out _).mono ?_; rintro e w' ⟨rfl, m1, rfl⟩
        go_wp2_with (fail)
        refine (F2.out _).mono ?_; rintro e w' ⟨rfl, m2, rfl⟩
        go_wp2_with (fail)
        refine (FF.out _ _ _ _ _ (fun _ => K1.out _ _ _ _ _ ?_ ?_ ?_ ?_ ?_ ?_)).mono ?_
        · ((repeat (first | (with_reducible refine Eq.trans (World.cell?_drewN _ _ _) ?_) | (with_reducible refine Eq.trans (World.cell?_drew _ _) ?_) | (with_reducible refine Eq.trans (World.cell?_alloc_past _ _ _ ?hsz) ?_; case hsz => (first | omega | ((simp only [World.size_alloc, World.size_setCell, World.size_drew, Wov_size, World.heap_drewN, Array.size_append]) <;> omega))) | (with_reducible refine Eq.trans (Wov_cell_past _ _ _ _ ?hsz) ?_; case hsz => (first | omega | ((simp only [World.size_alloc, World.size_setCell, World.size_drew, Wov_size, World.heap_drewN, Array.size_append]) <;> omega))) | (with_reducible refine Eq.trans (World.cell?_alloc_at _ _ _ _ ?hsz) ?_; case hsz => (first | omega | ((simp only [World.size_alloc, World.size_setCell, World.size_drew, Wov_size, World.heap_drewN, Array.size_append]) <;> omega))))) <;> first | rfl | assumption | (simp; done))
        · ((repeat (first | (with_reducible refine Eq.trans (World.cell?_drewN _ _ _) ?_) | (with_reducible refine Eq.trans (World.cell?_drew _ _) ?_) | (with_reducible refine Eq.trans (World.cell?_alloc_past _ _ _ ?hsz) ?_; case hsz => (first | omega | ((simp only [World.size_alloc, World.size_setCell, World.size_drew, Wov_size, World.heap_drewN, Array.size_append]) <;> omega))) | (with_reducible refine Eq.trans (Wov_cell_past _ _ _ _ ?hsz) ?_; case hsz => (first | omega | ((simp only [World.size_alloc, World.size_setCell, World.size_drew, Wov_size, World.heap_drewN, Array.size_append]) <;> omega))) | (with_reducible refine Eq.trans (World.cell?_alloc_at _ _ _ _ ?hsz) ?_; case hsz => (first | omega | ((simp only [World.size_alloc, World.size_setCell, World.size_drew, Wov_size, World.heap_drewN, Array.size_append]) <;> omega))))) <;> first | rfl | assumption | (simp; done))
        · ((repeat (first | (with_reducible refine Eq.trans (World.cell?_drewN _ _ _) ?_) | (with_reducible refine Eq.trans (World.cell?_drew _ _) ?_) | (with_reducible refine Eq.trans (World.cell?_alloc_past _ _ _ ?hsz) ?_; case hsz => (first | omega | ((simp only [World.size_alloc, World.size_setCell, World.size_drew, Wov_size, World.heap_drewN, Array.size_append]) <;> omega))) | (with_reducible refine Eq.trans (Wov_cell_past _ _ _ _ ?hsz) ?_; case hsz => (first | omega | ((simp only [World.size_alloc, World.size_setCell, World.size_drew, Wov_size, World.heap_drewN, Array.size_append]) <;> omega))) | (with_reducible refine Eq.trans (World.cell?_alloc_at _ _ _ _ ?hsz) ?_; case hsz => (first | omega | ((simp only [World.size_alloc, World.size_setCell, World.size_drew, Wov_size, World.heap_drewN, Array.size_append]) <;> omega))))) <;> first | rfl | assumption | (simp; done))
        · ((repeat (first | (with_reducible refine Eq.trans (World.cell?_drewN _ _ _) ?_) | (with_reducible refine Eq.trans (World.cell?_drew _ _) ?_) | (with_reducible refine Eq.trans (World.cell?_alloc_past _ _ _ ?hsz) ?_; case hsz => (first | omega | ((simp only [World.size_alloc, World.size_setCell, World.size_drew, Wov_size, World.heap_drewN, Array.size_append]) <;> omega))) | (with_reducible refine Eq.trans (Wov_cell_past _ _ _ _ ?hsz) ?_; case hsz => (first | omega | ((simp only [World.size_alloc, World.size_setCell, World.size_drew, Wov_size, World.heap_drewN, Array.size_append]) <;> omega))) | (with_reducible refine Eq.trans (World.cell?_alloc_at _ _ _ _ ?hsz) ?_; case hsz => (first | omega | ((simp only [World.size_alloc, World.size_setCell, World.size_drew, Wov_size, World.heap_drewN, Array.size_append]) <;> omega))))) <;> first | rfl | assumption | (simp; done))
        · ((repeat (first | (with_reducible refine Eq.trans (World.cell?_drewN _ _ _) ?_) | (with_reducible refine Eq.trans (World.cell?_drew _ _) ?_) | (with_reducible refine Eq.trans (World.cell?_alloc_past _ _ _ ?hsz) ?_; case hsz => (first | omega | ((simp only [World.size_alloc, World.size_setCell, World.size_drew, Wov_size, World.heap_drewN, Array.size_append]) <;> omega))) | (with_reducible refine Eq.trans (Wov_cell_past _ _ _ _ ?hsz) ?_; case hsz => (first | omega | ((simp only [World.size_alloc, World.size_setCell, World.size_drew, Wov_size, World.heap_drewN, Array.size_append]) <;> omega))) | (with_reducible refine Eq.trans (World.cell?_alloc_at _ _ _ _ ?hsz) ?_; case hsz => (first | omega | ((simp only [World.size_alloc, World.size_setCell, World.size_drew, Wov_size, World.heap_drewN, Array.size_append]) <;> omega))))) <;> first | rfl | assumption | (simp; done))
        · ((repeat (first | (with_reducible refine Eq.trans (World.cell?_drewN _ _ _) ?_) | (with_reducible refine Eq.trans (World.cell?_drew _ _) ?_) | (with_reducible refine Eq.trans (World.cell?_alloc_past _ _ _ ?hsz) ?_; case hsz => (first | omega | ((simp only [World.size_alloc, World.size_setCell, World.size_drew, Wov_size, World.heap_drewN, Array.size_append]) <;> omega))) | (with_reducible refine Eq.trans (Wov_cell_past _ _ _ _ ?hsz) ?_; case hsz => (first | omega | ((simp only [World.size_alloc, World.size_setCell, World.size_drew, Wov_size, World.heap_drewN, Array.size_append]) <;> omega))) | (with_reducible refine Eq.trans (World.cell?_alloc_at _ _ _ _ ?hsz) ?_; case hsz => (first | omega | ((simp only [World.size_alloc, World.size_setCell, World.size_drew, Wov_size, World.heap_drewN, Array.size_append]) <;> omega))))) <;> first | rfl | assumption | (simp; done))
        rintro e w' ⟨rfl, p4, rfl⟩
        go_wp2
        all_goals
          go_ret2
          refine gives_bpair ?_ (by (repeat' (first | (with_reducible assumption) | (with_reducible exact Below.refl _ _) | (with_reducible refine below_wov ?_ ?_ _) | (with_reducible refine below_drewN ?_ _) | (with_reducible refine Below.drew ?_) | (with_reducible refine Below.alloc ?_ ?_ _) | (with_reducible refine Below.setCell ?_ ?_ _) | (with_reducible exact Nat.le_refl _) | omega | (simp only [World.size_alloc, World.size_setCell, World.size_drew, Wov_size, World.heap_drewN]; omega))))
          rw [R.out]
          congr 1
          cases t <;> (rw [Bool.eq_iff_iff]; simp; try omega)
end Go.Proofs.Ytlcbpckinjkfeaa
