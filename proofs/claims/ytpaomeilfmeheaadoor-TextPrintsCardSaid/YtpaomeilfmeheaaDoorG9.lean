/- Contract of incl.pick: the time of a clock more. -/
import Derived.Test.YtpaomeilfmeheaaDoorG8
import Derived.StillTailTactics
namespace Go.Proofs.YtpaomeilfmeheaaDoor
set_option linter.unusedSimpArgs false
set_option linter.unusedVariables false
open Go Go.RowKit Go.Shelf
attribute [local go_sem] Nat.add_assoc Nat.add_lt_add_iff_left lit_lt_add

/-- An end in memory. -/
structure EndAt (W : World) (B : Nat) (i : Bool) (a d : Int) (s : Bool) : Prop where
  lt : B < W.heap.size
  c0 : W.cell? ⟨B, 0, none⟩ = some (.bool i)
  c1 : W.cell? ⟨B, 1, none⟩ = some (.int .i64 a)
  c2 : W.cell? ⟨B, 2, none⟩ = some (.int .i64 d)
  c3 : W.cell? ⟨B, 3, none⟩ = some (.bool s)
  z0 : W.frozen? ⟨B, 0, none⟩ = false
  z1 : W.frozen? ⟨B, 1, none⟩ = false
  z2 : W.frozen? ⟨B, 2, none⟩ = false
  z3 : W.frozen? ⟨B, 3, none⟩ = false
theorem EndAt.below {W V : World} {B : Nat} {i : Bool} {a d : Int} {s : Bool} (h : EndAt W B i a d s) (hb : Below W.heap.size W V) : EndAt V B i a d s :=
  ⟨Nat.lt_of_lt_of_le h.lt hb.size, (hb.cell (p := ⟨B, 0, none⟩) h.lt).trans h.c0, (hb.cell (p := ⟨B, 1, none⟩) h.lt).trans h.c1, (hb.cell (p := ⟨B, 2, none⟩) h.lt).trans h.c2, (hb.cell (p := ⟨B, 3, none⟩) h.lt).trans h.c3,
    (hb.frozen (p := ⟨B, 0, none⟩) h.lt).trans h.z0, (hb.frozen (p := ⟨B, 1, none⟩) h.lt).trans h.z1, (hb.frozen (p := ⟨B, 2, none⟩) h.lt).trans h.z2, (hb.frozen (p := ⟨B, 3, none⟩) h.lt).trans h.z3⟩
theorem EndAt.chg {W V : World} {B C : Nat} {i : Bool} {a d : Int} {s : Bool} (h : EndAt W B i a d s) (hb : Chg W C V) (hn : B ≠ C) : EndAt V B i a d s :=
  ⟨Nat.lt_of_lt_of_le h.lt hb.size, (hb.cell h.lt hn).trans h.c0, (hb.cell h.lt hn).trans h.c1, (hb.cell h.lt hn).trans h.c2, (hb.cell h.lt hn).trans h.c3, (hb.frozen h.lt hn).trans h.z0, (hb.frozen h.lt hn).trans h.z1, (hb.frozen h.lt hn).trans h.z2, (hb.frozen h.lt hn).trans h.z3⟩
theorem set_four {X : World} {B : Nat} {i : Bool} {a d : Int} {s : Bool} (h : EndAt X B i a d s) (i' : Bool) (a' d' : Int) (s' : Bool) :
    EndAt ((((X.setCell ⟨B, 0, none⟩ (.bool i')).setCell ⟨B, 1, none⟩ (.int .i64 a')).setCell ⟨B, 2, none⟩ (.int .i64 d')).setCell ⟨B, 3, none⟩ (.bool s')) B i' a' d' s' ∧
    Chg X B ((((X.setCell ⟨B, 0, none⟩ (.bool i')).setCell ⟨B, 1, none⟩ (.int .i64 a')).setCell ⟨B, 2, none⟩ (.int .i64 d')).setCell ⟨B, 3, none⟩ (.bool s')) := by
  have k0 := h.c0
  have k1 := h.c1
  have k2 := h.c2
  have k3 := h.c3
  have n01 : (⟨B, 0, none⟩ : Addr) ≠ ⟨B, 1, none⟩ := fun e => by cases e
  refine ⟨⟨by have := h.lt; simp [World.setCell]; omega, ?_, ?_, ?_, ?_, ?_, ?_, ?_, ?_⟩, (((Chg.set X B 0 _).trans (Chg.set _ B 1 _)).trans (Chg.set _ B 2 _)).trans (Chg.set _ B 3 _)⟩
  · rw [World.cell?_setCell_other _ _ _ _ (fun e => by cases e), World.cell?_setCell_other _ _ _ _ (fun e => by cases e), World.cell?_setCell_other _ _ _ _ (fun e => by cases e), setCell_cell_self, k0]; rfl
  · rw [World.cell?_setCell_other _ _ _ _ (fun e => by cases e), World.cell?_setCell_other _ _ _ _ (fun e => by cases e), setCell_cell_self, World.cell?_setCell_other _ _ _ _ (fun e => by cases e), k1]; rfl
  · rw [World.cell?_setCell_other _ _ _ _ (fun e => by cases e), setCell_cell_self, World.cell?_setCell_other _ _ _ _ (fun e => by cases e), World.cell?_setCell_other _ _ _ _ (fun e => by cases e), k2]; rfl
  · rw [setCell_cell_self, World.cell?_setCell_other _ _ _ _ (fun e => by cases e), World.cell?_setCell_other _ _ _ _ (fun e => by cases e), World.cell?_setCell_other _ _ _ _ (fun e => by cases e), k3]; rfl
  all_goals (rw [World.frozen?_setCell, World.frozen?_setCell, World.frozen?_setCell, World.frozen?_setCell])
  · exact h.z0
  · exact h.z1
  · exact h.z2
  · exact h.z3
theorem endL_raw (x : EndE) : ∃ i a d s, endL x = .agg #[.bool i, .int .i64 a, .int .i64 d, .bool s] := by
  rcases x with _ | ⟨y, s⟩
  · exact ⟨_, _, _, _, rfl⟩
  · exact ⟨_, _, _, _, rfl⟩
theorem endH_raw (x : EndE) : ∃ i a d s, endH x = .agg #[.bool i, .int .i64 a, .int .i64 d, .bool s] := by
  rcases x with _ | ⟨y, s⟩
  · exact ⟨_, _, _, _, rfl⟩
  · exact ⟨_, _, _, _, rfl⟩
def AtV (W : World) (B : Nat) (v : Value) : Prop := ∃ i a d s, v = .agg #[.bool i, .int .i64 a, .int .i64 d, .bool s] ∧ EndAt W B i a d s

/-- What stays while the ends are put together. -/
structure PickI (w : World) (n : Nat) (N : Nat) (p : Option Addr) (c : Nat) (L H : EndE) (W : World) : Prop where
  below : Below w.heap.size w W
  d0 : W.cell? ⟨w.heap.size, 0, none⟩ = some (.int .i64 n)
  d1 : W.cell? ⟨w.heap.size, 1, none⟩ = some (.slice p N c)
  r0 : W.cell? ⟨w.heap.size + 1, 0, none⟩ = some (.int .i64 0)
  r1 : W.cell? ⟨w.heap.size + 1, 1, none⟩ = some (.int .i64 0)
  z0 : W.frozen? ⟨w.heap.size + 1, 0, none⟩ = false
  z1 : W.frozen? ⟨w.heap.size + 1, 1, none⟩ = false
  lo : AtV W (w.heap.size + 2) (endL L)
  hi : AtV W (w.heap.size + 3) (endH H)

/-- Times in eighths, as a list holds them. -/
def q8T (t : Nat → Int) : Nat → Int × Int := fun k => q8 (t k)

theorem low_ok {g t : Nat → Int} : ∀ {m : Nat}, (∀ k, k < m → g k ≠ noneB → ok8 (t k - 8 * (g k / 2))) → EOK (lowF g t m)
  | 0, _ => fun y s h => by cases h
  | m + 1, h => fun y s e => by
    obtain ⟨_, k, hk, h1, h2, _⟩ := low_some (m + 1) y s e
    rw [h2]; exact h k hk h1
theorem ok8_of_neg {t : Int} (h : ok8 (-t)) : ok8 t := by have := h.neg; rwa [Int.neg_neg] at this

theorem AtV.at_ {W : World} {B : Nat} {i : Bool} {a d : Int} {s : Bool} (h : AtV W B (.agg #[.bool i, .int .i64 a, .int .i64 d, .bool s])) : EndAt W B i a d s := by
  obtain ⟨i', a', d', s', e, h⟩ := h
  have e1 : i = i' ∧ a = a' ∧ d = d' ∧ s = s' := by simpa using e
  obtain ⟨rfl, rfl, rfl, rfl⟩ := e1
  exact h
theorem AtV.lt' {W : World} {B : Nat} {v : Value} (h : AtV W B v) : B < W.heap.size := by
  obtain ⟨_, _, _, _, _, h⟩ := h; exact h.lt
/-- What is known of the ends. -/
structure PickF (L H : EndE) : Prop where
  lo : EOK L
  hi : EOK H
  even : ∀ y s z s', L = some (y, s) → H = some (z, s') → (y + -z) % 2 = 0
  res : ok8 (pickE L H)
theorem pick_facts {g h t : Nat → Int} {m : Nat} {L H : EndE} (OK : PickOK g h t m) (hL : L = lowF g t m) (hH : H = lowF h (fun k => -(t k)) m) : PickF L H := by
  refine ⟨?_, ?_, ?_, ?_⟩
  · rw [hL]; exact low_ok fun k hk hne => (OK.lo k hk hne).2
  · rw [hH]; exact low_ok fun k hk hne => by
      have := (OK.hi k hk hne).2.neg
      rwa [show -(t k + 8 * (h k / 2)) = -(t k) - 8 * (h k / 2) from by omega] at this
  · intro y s z s' e1 e2
    rw [hL] at e1
    rw [hH] at e2
    obtain ⟨_, k, hk, _, h2, _⟩ := low_some m y s e1
    obtain ⟨_, l, hl, _, h3, _⟩ := low_some m z s' e2
    have := OK.even k hk
    have := OK.even l hl
    (try simp only at h3)
    omega
  · rw [hL, hH]; exact OK.res

end Go.Proofs.YtpaomeilfmeheaaDoor
