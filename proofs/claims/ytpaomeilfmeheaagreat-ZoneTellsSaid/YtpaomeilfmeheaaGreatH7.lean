/- Zones: which is ahead: plain laws; contracts of slices.Compare and zone.Cmp. No condition. -/
import Derived.Test.YtpaomeilfmeheaaGreatH1
namespace Go.Proofs.YtpaomeilfmeheaaGreat
set_option linter.unusedSimpArgs false
set_option linter.unusedVariables false
open Go Go.RowKit Go.Shelf
attribute [local go_sem] Nat.add_assoc Nat.add_lt_add_iff_left lit_lt_add

/-- Which row is ahead, from a place on. -/
def lexK (a b : Nat → Int) : Nat → Nat → Int
  | _, 0 => 0
  | t, k + 1 => if sgn3 (a t) (b t) 0 = 0 then lexK a b (t + 1) k else sgn3 (a t) (b t) 0
def cmpZ (a b : Nat → Int) : Int := lexK a b 0 6
theorem sgn3_cases (a b : Int) : (a < b ∧ sgn3 a b 0 = -1) ∨ (a = b ∧ sgn3 a b 0 = 0) ∨ (b < a ∧ sgn3 a b 0 = 1) := by
  unfold sgn3
  (repeat' split) <;> omega
theorem lexK_anti (a b : Nat → Int) : ∀ k t, lexK b a t k = -(lexK a b t k)
  | 0, _ => rfl
  | k + 1, t => by
    unfold lexK
    rcases sgn3_cases (a t) (b t) with ⟨h, e⟩ | ⟨h, e⟩ | ⟨h, e⟩ <;> rcases sgn3_cases (b t) (a t) with ⟨g, e'⟩ | ⟨g, e'⟩ | ⟨g, e'⟩ <;> first | (exfalso; omega) | (rw [e, e']; simp [lexK_anti a b k (t + 1)])
theorem lexK_zero (a b : Nat → Int) : ∀ k t, lexK a b t k = 0 ↔ ∀ i, t ≤ i → i < t + k → a i = b i
  | 0, t => by
    unfold lexK
    exact ⟨fun _ i h1 h2 => by omega, fun _ => rfl⟩
  | k + 1, t => by
    unfold lexK
    rcases sgn3_cases (a t) (b t) with ⟨h, e⟩ | ⟨h, e⟩ | ⟨h, e⟩
    · rw [e, if_neg (by omega)]
      exact ⟨fun h' => by omega, fun h' => by have := h' t (by omega) (by omega); omega⟩
    · rw [e, if_pos rfl, lexK_zero a b k (t + 1)]
      constructor
      · intro h' i h1 h2
        by_cases ei : i = t
        · rw [ei]; exact h
        · exact h' i (by omega) (by omega)
      · exact fun h' i h1 h2 => h' i (by omega) (by omega)
    · rw [e, if_neg (by omega)]
      exact ⟨fun h' => by omega, fun h' => by have := h' t (by omega) (by omega); omega⟩
theorem lexK_trans (a b c : Nat → Int) : ∀ k t, lexK a b t k ≤ 0 → lexK b c t k ≤ 0 → lexK a c t k ≤ 0
  | 0, _ => fun _ _ => Int.le_refl 0
  | k + 1, t => by
    unfold lexK
    intro h1 h2
    rcases sgn3_cases (a t) (b t) with ⟨x, e1⟩ | ⟨x, e1⟩ | ⟨x, e1⟩
    · rcases sgn3_cases (b t) (c t) with ⟨y, e2⟩ | ⟨y, e2⟩ | ⟨y, e2⟩
      · rcases sgn3_cases (a t) (c t) with ⟨z, e3⟩ | ⟨z, e3⟩ | ⟨z, e3⟩
        · rw [e3]; simp
        · omega
        · omega
      · rcases sgn3_cases (a t) (c t) with ⟨z, e3⟩ | ⟨z, e3⟩ | ⟨z, e3⟩
        · rw [e3]; simp
        · omega
        · omega
      · rw [e2, if_neg (by omega)] at h2; omega
    · rcases sgn3_cases (b t) (c t) with ⟨y, e2⟩ | ⟨y, e2⟩ | ⟨y, e2⟩
      · rcases sgn3_cases (a t) (c t) with ⟨z, e3⟩ | ⟨z, e3⟩ | ⟨z, e3⟩
        · rw [e3]; simp
        · omega
        · omega
      · rcases sgn3_cases (a t) (c t) with ⟨z, e3⟩ | ⟨z, e3⟩ | ⟨z, e3⟩
        · omega
        · rw [e1, if_pos rfl] at h1
          rw [e2, if_pos rfl] at h2
          rw [e3, if_pos rfl]
          exact lexK_trans a b c k (t + 1) h1 h2
        · omega
      · rw [e2, if_neg (by omega)] at h2; omega
    · rw [e1, if_neg (by omega)] at h1; omega
theorem lexK_three (a b : Nat → Int) : ∀ k t, lexK a b t k = -1 ∨ lexK a b t k = 0 ∨ lexK a b t k = 1
  | 0, _ => .inr (.inl rfl)
  | k + 1, t => by
    unfold lexK
    split
    · exact lexK_three a b k (t + 1)
    · rcases sgn3_cases (a t) (b t) with ⟨_, e⟩ | ⟨_, e⟩ | ⟨_, e⟩ <;> omega
/-- ZoneOrder. -/
theorem zorder_law (a b c : Nat → Int) : cmpZ a b = -(cmpZ b a) ∧ (cmpZ a b = 0 ↔ ∀ i, i < 6 → a i = b i) ∧ (0 < cmpZ a b ∨ 0 < cmpZ b c ∨ cmpZ a c ≤ 0) := by
  refine ⟨lexK_anti b a 6 0, ?_, ?_⟩
  · unfold cmpZ
    rw [lexK_zero]
    exact ⟨fun h i hi => h i (by omega) (by omega), fun h i _ hi => h i (by omega)⟩
  · by_cases h1 : 0 < cmpZ a b
    · exact .inl h1
    · by_cases h2 : 0 < cmpZ b c
      · exact .inr (.inl h2)
      · exact .inr (.inr (lexK_trans a b c 6 0 (by unfold cmpZ at h1; omega) (by unfold cmpZ at h2; omega)))

set_option maxHeartbeats 400000 in
theorem cmpB_any (a b : Int) (w : World) :
    Calls Tryz.prog 74 #[.int .i64 a, .int .i64 b] w fun e w' => e = .returned (.int .i64 (sgn3 a b 0)) ∧ w = w' := by
  go_enter Tryz.func74, Tryz.ntmps74
  go_wp2
  all_goals
    go_ret
    refine ⟨ret_int ?_, rfl⟩
    unfold sgn3
    (repeat split) <;> omega
theorem lexK_step {a b : Nat → Int} {N t : Nat} (h : t < N) : lexK a b t (N - t) = if sgn3 (a t) (b t) 0 = 0 then lexK a b (t + 1) (N - (t + 1)) else sgn3 (a t) (b t) 0 := by
  obtain ⟨m, hm⟩ : ∃ m, N - t = m + 1 := ⟨N - t - 1, by omega⟩
  rw [hm, show N - (t + 1) = m by omega]; rfl

set_option maxRecDepth 10000 in
set_option maxHeartbeats 1000000 in
theorem scompare_any (p1 p2 : Option Addr) (N c1 c2 : Nat) (a b : Nat → Int) (w : World) (h1 : SlP w p1 N a) (h2 : SlP w p2 N b) (hN : N ≤ 1000) :
    Calls Tryz.prog 42 #[.slice p1 N c1, .slice p2 N c2] w (Gives w (.int .i64 (lexK a b 0 N))) := by
  obtain ⟨r, hr⟩ : ∃ r, r = lexK a b 0 N := ⟨_, rfl⟩
  rw [← hr]
  have HR := Lib.hid hr
  clear hr
  go_enter Tryz.func42, Tryz.ntmps42
  go_wp2
  go_loopw [11] (fun i wr => ∃ t : Nat, t ≤ N ∧ i = .int .i64 t ∧ Hid (r = lexK a b t (N - t)) ∧ Below w.heap.size w wr)
    (fun i _ => N - (intOf i).toNat)
  case atStart => exact ⟨0, Nat.zero_le _, rfl, HR, Below.refl _ _⟩
  case round =>
    obtain ⟨t, ht, rfl, hr, hB⟩ := hrel
    by_cases hlt : t < N
    · obtain ⟨B1, o1, rfl, hB1, hc1⟩ := h1.pos (by omega)
      obtain ⟨B2, o2, rfl, hB2, hc2⟩ := h2.pos (by omega)
      have k1 := (hB.cell (p := ⟨B1, o1 + t, none⟩) hB1).trans (hc1 t hlt)
      have k2 := (hB.cell (p := ⟨B2, o2 + t, none⟩) hB2).trans (hc2 t hlt)
      have hr' := hr.out
      rw [lexK_step hlt] at hr'
      obtain ⟨u, hu⟩ : ∃ u, u = a t := ⟨_, rfl⟩
      obtain ⟨v, hv⟩ : ∃ v, v = b t := ⟨_, rfl⟩
      rw [← hu] at k1
      rw [← hv] at k2
      rw [← hu, ← hv] at hr'
      have CB := Lib.hid (cmpB_any u v)
      obtain ⟨s, hs⟩ : ∃ s, s = sgn3 u v 0 := ⟨_, rfl⟩
      rw [← hs] at hr' CB
      clear hc1 hc2 h1 h2 HR hr hs hu hv
      by_cases he : s = 0
      · rw [if_pos he] at hr'
        have HR := Lib.hid hr'
        have be : (s != 0) = false := by rw [bne_eq_false_iff_eq]; exact he
        clear hr'
        go_wp2_with (fail)
        refine (CB.out _).mono ?_; rintro e w' ⟨rfl, rfl⟩
        go_wp2
        go_roundw
        case rel => exact ⟨t + 1, hlt, by go_num, HR.out, by (repeat' (first | (with_reducible assumption) | (with_reducible exact Below.refl _ _) | (with_reducible refine below_wov ?_ ?_ _) | (with_reducible refine below_drewN ?_ _) | (with_reducible refine Below.drew ?_) | (with_reducible refine Below.alloc ?_ ?_ _) | (with_reducible refine Below.setCell ?_ ?_ _) | (with_reducible exact Nat.le_refl _) | omega | (simp only [World.size_alloc, World.size_setCell, World.size_drew, Wov_size, World.heap_drewN]; omega)))⟩
        case measure => simp [intOf]; omega
      · rw [if_neg he] at hr'
        have HR := Lib.hid hr'
        have be : (s != 0) = true := by rw [bne_iff_ne]; exact he
        clear hr'
        go_wp2_with (fail)
        refine (CB.out _).mono ?_; rintro e w' ⟨rfl, rfl⟩
        go_wp2
        go_ret
        exact gives_int HR.out.symm (by (repeat' (first | (with_reducible assumption) | (with_reducible exact Below.refl _ _) | (with_reducible refine below_wov ?_ ?_ _) | (with_reducible refine below_drewN ?_ _) | (with_reducible refine Below.drew ?_) | (with_reducible refine Below.alloc ?_ ?_ _) | (with_reducible refine Below.setCell ?_ ?_ _) | (with_reducible exact Nat.le_refl _) | omega | (simp only [World.size_alloc, World.size_setCell, World.size_drew, Wov_size, World.heap_drewN]; omega))))
    · obtain rfl : t = N := by omega
      have hr' := hr.out
      rw [Nat.sub_self] at hr'
      have HR : Hid (r = 0) := hr'
      clear h1 h2 hr hr'
      go_wp2
      go_ret
      exact gives_int HR.out.symm (by (repeat' (first | (with_reducible assumption) | (with_reducible exact Below.refl _ _) | (with_reducible refine below_wov ?_ ?_ _) | (with_reducible refine below_drewN ?_ _) | (with_reducible refine Below.drew ?_) | (with_reducible refine Below.alloc ?_ ?_ _) | (with_reducible refine Below.setCell ?_ ?_ _) | (with_reducible exact Nat.le_refl _) | omega | (simp only [World.size_alloc, World.size_setCell, World.size_drew, Wov_size, World.heap_drewN]; omega))))
theorem BoxZ.slp {W : World} {A : Nat} {z : Nat → Int} (h : BoxZ W A z) : SlP W (some ⟨A, 0, none⟩) 6 z := by
  refine .inr ⟨A, 0, rfl, h.lt, fun x hx => ?_⟩
  have : x = 0 ∨ x = 1 ∨ x = 2 ∨ x = 3 ∨ x = 4 ∨ x = 5 := by omega
  rcases this with rfl | rfl | rfl | rfl | rfl | rfl
  · exact h.c0
  · exact h.c1
  · exact h.c2
  · exact h.c3
  · exact h.c4
  · exact h.c5

set_option maxRecDepth 10000 in
set_option maxHeartbeats 1000000 in
theorem zcmp_any (a b : Nat → Int) (w : World) : Calls Tryz.prog 19 #[zoneV a, zoneV b] w (Gives w (.int .i64 (cmpZ a b))) := by
  have SC : Hid (∀ w A B, SlP w (some ⟨A, 0, none⟩) 6 a → SlP w (some ⟨B, 0, none⟩) 6 b → Calls Tryz.prog 42 #[.slice (some ⟨A, 0, none⟩) 6 6, .slice (some ⟨B, 0, none⟩) 6 6] w (Gives w (.int .i64 (cmpZ a b)))) := fun w A B h g => scompare_any _ _ 6 6 6 a b w h g (by omega)
  obtain ⟨r, hr⟩ : ∃ r, r = cmpZ a b := ⟨_, rfl⟩
  rw [← hr] at SC ⊢
  clear hr
  unfold zoneV
  go_enter Tryz.func19, Tryz.ntmps19
  go_wp2_with (fail)
  refine wp_world (fun W => Below w.heap.size w W ∧ BoxZ W w.heap.size a ∧ BoxZ W (w.heap.size + 1) b) ⟨by (repeat' (first | (with_reducible assumption) | (with_reducible exact Below.refl _ _) | (with_reducible refine below_wov ?_ ?_ _) | (with_reducible refine below_drewN ?_ _) | (with_reducible refine Below.drew ?_) | (with_reducible refine Below.alloc ?_ ?_ _) | (with_reducible refine Below.setCell ?_ ?_ _) | (with_reducible exact Nat.le_refl _) | omega | (simp only [World.size_alloc, World.size_setCell, World.size_drew, Wov_size, World.heap_drewN]; omega))), (BoxZ.new (W := w) (t := 24) rfl).below (by (repeat' (first | (with_reducible assumption) | (with_reducible exact Below.refl _ _) | (with_reducible refine below_wov ?_ ?_ _) | (with_reducible refine below_drewN ?_ _) | (with_reducible refine Below.drew ?_) | (with_reducible refine Below.alloc ?_ ?_ _) | (with_reducible refine Below.setCell ?_ ?_ _) | (with_reducible exact Nat.le_refl _) | omega | (simp only [World.size_alloc, World.size_setCell, World.size_drew, Wov_size, World.heap_drewN]; omega)))), BoxZ.new (W := w.alloc (.cells #[.int .i64 (a 0), .int .i64 (a 1), .int .i64 (a 2), .int .i64 (a 3), .int .i64 (a 4), .int .i64 (a 5)] 24)) (t := 24) (by simp)⟩ ?_
  rintro W ⟨hbW, m0, m1⟩
  have hsW := hbW.size
  have l0 := m0.lt
  have l1 := m1.lt
  go_region_held3 (fun w' => SlP w' (some ⟨w.heap.size, 0, none⟩) 6 a ∧ SlP w' (some ⟨w.heap.size + 1, 0, none⟩) 6 b)
    (exact ⟨m0.slp.below (by (repeat' (first | (with_reducible assumption) | (with_reducible exact Below.refl _ _) | (with_reducible refine below_wov ?_ ?_ _) | (with_reducible refine below_drewN ?_ _) | (with_reducible refine Below.drew ?_) | (with_reducible refine Below.alloc ?_ ?_ _) | (with_reducible refine Below.setCell ?_ ?_ _) | (with_reducible exact Nat.le_refl _) | omega | (simp only [World.size_alloc, World.size_setCell, World.size_drew, Wov_size, World.heap_drewN]; omega)))), m1.slp.below (by (repeat' (first | (with_reducible assumption) | (with_reducible exact Below.refl _ _) | (with_reducible refine below_wov ?_ ?_ _) | (with_reducible refine below_drewN ?_ _) | (with_reducible refine Below.drew ?_) | (with_reducible refine Below.alloc ?_ ?_ _) | (with_reducible refine Below.setCell ?_ ?_ _) | (with_reducible exact Nat.le_refl _) | omega | (simp only [World.size_alloc, World.size_setCell, World.size_drew, Wov_size, World.heap_drewN]; omega))))⟩)
    (first
    | (go_at_call 42; refine (SC.out _ _ _ (m0.slp.below (by (repeat' (first | (with_reducible assumption) | (with_reducible exact Below.refl _ _) | (with_reducible refine below_wov ?_ ?_ _) | (with_reducible refine below_drewN ?_ _) | (with_reducible refine Below.drew ?_) | (with_reducible refine Below.alloc ?_ ?_ _) | (with_reducible refine Below.setCell ?_ ?_ _) | (with_reducible exact Nat.le_refl _) | omega | (simp only [World.size_alloc, World.size_setCell, World.size_drew, Wov_size, World.heap_drewN]; omega))))) (m1.slp.below (by (repeat' (first | (with_reducible assumption) | (with_reducible exact Below.refl _ _) | (with_reducible refine below_wov ?_ ?_ _) | (with_reducible refine below_drewN ?_ _) | (with_reducible refine Below.drew ?_) | (with_reducible refine Below.alloc ?_ ?_ _) | (with_reducible refine Below.setCell ?_ ?_ _) | (with_reducible exact Nat.le_refl _) | omega | (simp only [World.size_alloc, World.size_setCell, World.size_drew, Wov_size, World.heap_drewN]; omega)))))).mono ?_; rintro e w' ⟨rfl, qa, rfl⟩))
  all_goals
    go_wp2
    go_ret
    exact gives_int rfl (by (repeat' (first | (with_reducible assumption) | (with_reducible exact Below.refl _ _) | (with_reducible refine below_wov ?_ ?_ _) | (with_reducible refine below_drewN ?_ _) | (with_reducible refine Below.drew ?_) | (with_reducible refine Below.alloc ?_ ?_ _) | (with_reducible refine Below.setCell ?_ ?_ _) | (with_reducible exact Nat.le_refl _) | omega | (simp only [World.size_alloc, World.size_setCell, World.size_drew, Wov_size, World.heap_drewN]; omega))))
#print axioms zcmp_any
end Go.Proofs.YtpaomeilfmeheaaGreat
