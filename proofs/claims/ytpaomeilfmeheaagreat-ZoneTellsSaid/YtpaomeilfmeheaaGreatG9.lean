/- Contract of incl.pick: the time of a clock more. -/
import Derived.Test.YtpaomeilfmeheaaGreatG8
import Derived.StillTailTactics
namespace Go.Proofs.YtpaomeilfmeheaaGreat
set_option linter.unusedSimpArgs false
set_option linter.unusedVariables false
open Go Go.RowKit Go.Shelf
attribute [local go_sem] Nat.add_assoc Nat.add_lt_add_iff_left lit_lt_add

/-- An end in memory. -/
structure EndAt (W : World) (B : Nat) (i : Bool) (a d : Int) (s : Bool) : Prop where
  lt : B < W.heap.size
  c0 : W.cell? ⟨B, 0, none⟩ = some (.bool i)
  c1 : W.cell? ⟨B, 1, none⟩ = some (.int .i64 a)
  c2 : W.cell? ⟨B, 2, none⟩ = some (.int .i64 d)
  c3 : W.cell? ⟨B, 3, none⟩ = some (.bool s)
  z0 : W.frozen? ⟨B, 0, none⟩ = false
  z1 : W.frozen? ⟨B, 1, none⟩ = false
  z2 : W.frozen? ⟨B, 2, none⟩ = false
  z3 : W.frozen? ⟨B, 3, none⟩ = false
theorem EndAt.below {W V : World} {B : Nat} {i : Bool} {a d : Int} {s : Bool} (h : EndAt W B i a d s) (hb : Below W.heap.size W V) : EndAt V B i a d s :=
  ⟨Nat.lt_of_lt_of_le h.lt hb.size, (hb.cell (p := ⟨B, 0, none⟩) h.lt).trans h.c0, (hb.cell (p := ⟨B, 1, none⟩) h.lt).trans h.c1, (hb.cell (p := ⟨B, 2, none⟩) h.lt).trans h.c2, (hb.cell (p := ⟨B, 3, none⟩) h.lt).trans h.c3,
    (hb.frozen (p := ⟨B, 0, none⟩) h.lt).trans h.z0, (hb.frozen (p := ⟨B, 1, none⟩) h.lt).trans h.z1, (hb.frozen (p := ⟨B, 2, none⟩) h.lt).trans h.z2, (hb.frozen (p := ⟨B, 3, none⟩) h.lt).trans h.z3⟩
theorem EndAt.chg {W V : World} {B C : Nat} {i : Bool} {a d : Int} {s : Bool} (h : EndAt W B i a d s) (hb : Chg W C V) (hn : B ≠ C) : EndAt V B i a d s :=
  ⟨Nat.lt_of_lt_of_le h.lt hb.size, (hb.cell h.lt hn).trans h.c0, (hb.cell h.lt hn).trans h.c1, (hb.cell h.lt hn).trans h.c2, (hb.cell h.lt hn).trans h.c3, (hb.frozen h.lt hn).trans h.z0, (hb.frozen h.lt hn).trans h.z1, (hb.frozen h.lt hn).trans h.z2, (hb.frozen h.lt hn).trans h.z3⟩
theorem set_four {X : World} {B : Nat} {i : Bool} {a d : Int} {s : Bool} (h : EndAt X B i a d s) (i' : Bool) (a' d' : Int) (s' : Bool) :
    EndAt ((((X.setCell ⟨B, 0, none⟩ (.bool i')).setCell ⟨B, 1, none⟩ (.int .i64 a')).setCell ⟨B, 2, none⟩ (.int .i64 d')).setCell ⟨B, 3, none⟩ (.bool s')) B i' a' d' s' ∧
    Chg X B ((((X.setCell ⟨B, 0, none⟩ (.bool i')).setCell ⟨B, 1, none⟩ (.int .i64 a')).setCell ⟨B, 2, none⟩ (.int .i64 d')).setCell ⟨B, 3, none⟩ (.bool s')) := by
  have k0 := h.c0
  have k1 := h.c1
  have k2 := h.c2
  have k3 := h.c3
  have n01 : (⟨B, 0, none⟩ : Addr) ≠ ⟨B, 1, none⟩ := fun e => by cases e
  refine ⟨⟨by have := h.lt; simp [World.setCell]; omega, ?_, ?_, ?_, ?_, ?_, ?_, ?_, ?_⟩, (((Chg.set X B 0 _).trans (Chg.set _ B 1 _)).trans (Chg.set _ B 2 _)).trans (Chg.set _ B 3 _)⟩
  · rw [World.cell?_setCell_other _ _ _ _ (fun e => by cases e), World.cell?_setCell_other _ _ _ _ (fun e => by cases e), World.cell?_setCell_other _ _ _ _ (fun e => by cases e), setCell_cell_self, k0]; rfl
  · rw [World.cell?_setCell_other _ _ _ _ (fun e => by cases e), World.cell?_setCell_other _ _ _ _ (fun e => by cases e), setCell_cell_self, World.cell?_setCell_other _ _ _ _ (fun e => by cases e), k1]; rfl
  · rw [World.cell?_setCell_other _ _ _ _ (fun e => by cases e), setCell_cell_self, World.cell?_setCell_other _ _ _ _ (fun e => by cases e), World.cell?_setCell_other _ _ _ _ (fun e => by cases e), k2]; rfl
  · rw [setCell_cell_self, World.cell?_setCell_other _ _ _ _ (fun e => by cases e), World.cell?_setCell_other _ _ _ _ (fun e => by cases e), World.cell?_setCell_other _ _ _ _ (fun e => by cases e), k3]; rfl
  all_goals (rw [World.frozen?_setCell, World.frozen?_setCell, World.frozen?_setCell, World.frozen?_setCell])
  · exact h.z0
  · exact h.z1
  · exact h.z2
  · exact h.z3
theorem endL_raw (x : EndE) : ∃ i a d s, endL x = .agg #[.bool i, .int .i64 a, .int .i64 d, .bool s] := by
  rcases x with _ | ⟨y, s⟩
  · exact ⟨_, _, _, _, rfl⟩
  · exact ⟨_, _, _, _, rfl⟩
theorem endH_raw (x : EndE) : ∃ i a d s, endH x = .agg #[.bool i, .int .i64 a, .int .i64 d, .bool s] := by
  rcases x with _ | ⟨y, s⟩
  · exact ⟨_, _, _, _, rfl⟩
  · exact ⟨_, _, _, _, rfl⟩
def AtV (W : World) (B : Nat) (v : Value) : Prop := ∃ i a d s, v = .agg #[.bool i, .int .i64 a, .int .i64 d, .bool s] ∧ EndAt W B i a d s

/-- What stays while the ends are put together. -/
structure PickI (w : World) (n : Nat) (N : Nat) (p : Option Addr) (c : Nat) (L H : EndE) (W : World) : Prop where
  below : Below w.heap.size w W
  d0 : W.cell? ⟨w.heap.size, 0, none⟩ = some (.int .i64 n)
  d1 : W.cell? ⟨w.heap.size, 1, none⟩ = some (.slice p N c)
  r0 : W.cell? ⟨w.heap.size + 1, 0, none⟩ = some (.int .i64 0)
  r1 : W.cell? ⟨w.heap.size + 1, 1, none⟩ = some (.int .i64 0)
  z0 : W.frozen? ⟨w.heap.size + 1, 0, none⟩ = false
  z1 : W.frozen? ⟨w.heap.size + 1, 1, none⟩ = false
  lo : AtV W (w.heap.size + 2) (endL L)
  hi : AtV W (w.heap.size + 3) (endH H)

/-- Times in eighths, as a list holds them. -/
def q8T (t : Nat → Int) : Nat → Int × Int := fun k => q8 (t k)

theorem low_ok {g t : Nat → Int} : ∀ {m : Nat}, (∀ k, k < m → g k ≠ noneB → ok8 (t k - 8 * (g k / 2))) → EOK (lowF g t m)
  | 0, _ => fun y s h => by cases h
  | m + 1, h => fun y s e => by
    obtain ⟨_, k, hk, h1, h2, _⟩ := low_some (m + 1) y s e
    rw [h2]; exact h k hk h1
theorem ok8_of_neg {t : Int} (h : ok8 (-t)) : ok8 t := by have := h.neg; rwa [Int.neg_neg] at this

theorem AtV.at_ {W : World} {B : Nat} {i : Bool} {a d : Int} {s : Bool} (h : AtV W B (.agg #[.bool i, .int .i64 a, .int .i64 d, .bool s])) : EndAt W B i a d s := by
  obtain ⟨i', a', d', s', e, h⟩ := h
  have e1 : i = i' ∧ a = a' ∧ d = d' ∧ s = s' := by simpa using e
  obtain ⟨rfl, rfl, rfl, rfl⟩ := e1
  exact h
theorem AtV.lt' {W : World} {B : Nat} {v : Value} (h : AtV W B v) : B < W.heap.size := by
  obtain ⟨_, _, _, _, _, h⟩ := h; exact h.lt
/-- What is known of the ends. -/
structure PickF (L H : EndE) : Prop where
  lo : EOK L
  hi : EOK H
  even : ∀ y s z s', L = some (y, s) → H = some (z, s') → (y + -z) % 2 = 0
  res : ok8 (pickE L H)
theorem pick_facts {g h t : Nat → Int} {m : Nat} {L H : EndE} (OK : PickOK g h t m) (hL : L = lowF g t m) (hH : H = lowF h (fun k => -(t k)) m) : PickF L H := by
  refine ⟨?_, ?_, ?_, ?_⟩
  · rw [hL]; exact low_ok fun k hk hne => (OK.lo k hk hne).2
  · rw [hH]; exact low_ok fun k hk hne => by
      have := (OK.hi k hk hne).2.neg
      rwa [show -(t k + 8 * (h k / 2)) = -(t k) - 8 * (h k / 2) from by omega] at this
  · intro y s z s' e1 e2
    rw [hL] at e1
    rw [hH] at e2
    obtain ⟨_, k, hk, _, h2, _⟩ := low_some m y s e1
    obtain ⟨_, l, hl, _, h3, _⟩ := low_some m z s' e2
    have := OK.even k hk
    have := OK.even l hl
    (try simp only at h3)
    omega
  · rw [hL, hH]; exact OK.res

set_option maxRecDepth 10000 in
set_option maxHeartbeats 4000000 in
theorem pick_any (n m : Nat) (p1 p2 : Option Addr) (c1 c2 : Nat) (f t : Nat → Int) (w : World) (hn : n ≤ 4) (hm : m < n) (hm0 : 1 ≤ m) (hS1 : SlP w p1 (n * n) f) (hS2 : SlR w p2 m (q8T t)) (OK : PickOK (fun k => f (k * n + m)) (fun k => f (m * n + k)) t m) :
    Calls Tryz.prog 71 #[.agg #[.int .i64 n, .slice p1 (n * n) c1], .slice p2 m c2] w (Gives w (.agg #[.int .i64 (q8 (pickE (lowF (fun k => f (k * n + m)) t m) (lowF (fun k => f (m * n + k)) (fun k => -(t k)) m))).1, .int .i64 (q8 (pickE (lowF (fun k => f (k * n + m)) t m) (lowF (fun k => f (m * n + k)) (fun k => -(t k)) m))).2])) := by
  have hq0 : n * n ≤ 4 * 4 := Nat.mul_le_mul hn hn
  have hq1 : 1 * 1 ≤ n * n := Nat.mul_le_mul (by omega) (by omega)
  obtain ⟨B1, o1, rfl, hB1, hc1⟩ := hS1.pos (by omega)
  obtain ⟨B2, o2, rfl, hB2, hc2⟩ := hS2.resolve_left (by omega)
  have HC1 := Lib.hid hc1
  have HC2 := Lib.hid hc2
  have HOK := Lib.hid OK
  have PL := Lib.hid (fun i j (hi : i < n) (hj : j < n) => place_lt hi hj)
  obtain ⟨N, hN⟩ : ∃ N, N = n * n := ⟨_, rfl⟩
  rw [← hN] at HC1 PL hq0 hq1 ⊢
  obtain ⟨L, hL⟩ : ∃ L, Hid (L = lowF (fun k => f (k * n + m)) t m) := ⟨_, rfl⟩
  obtain ⟨H, hH⟩ : ∃ H, Hid (H = lowF (fun k => f (m * n + k)) (fun k => -(t k)) m) := ⟨_, rfl⟩
  rw [← hL.out, ← hH.out]
  obtain ⟨va, hva⟩ : ∃ v, Hid (v = (q8 (pickE L H)).1) := ⟨_, rfl⟩
  obtain ⟨vb, hvb⟩ : ∃ v, Hid (v = (q8 (pickE L H)).2) := ⟨_, rfl⟩
  rw [← hva.out, ← hvb.out]
  clear hc1 hc2 OK hN hS1 hS2
  go_enter Tryz.func71, Tryz.ntmps71
  go_wp2
  refine wp_world (fun W => PickI w n N (some ⟨B1, o1, none⟩) c1 none none W) ⟨by (repeat' (first | (with_reducible assumption) | (with_reducible exact Below.refl _ _) | (with_reducible refine below_wov ?_ ?_ _) | (with_reducible refine below_drewN ?_ _) | (with_reducible refine Below.drew ?_) | (with_reducible refine Below.alloc ?_ ?_ _) | (with_reducible refine Below.setCell ?_ ?_ _) | (with_reducible exact Nat.le_refl _) | omega | (simp only [World.size_alloc, World.size_setCell, World.size_drew, Wov_size, World.heap_drewN]; omega))), by simp [go_sem], by simp [go_sem], by simp [go_sem], by simp [go_sem], by simp [go_sem], by simp [go_sem], ⟨false, 0, 0, false, rfl, by simp, by simp [go_sem], by simp [go_sem], by simp [go_sem], by simp [go_sem], by simp [go_sem], by simp [go_sem], by simp [go_sem], by simp [go_sem]⟩, ⟨false, 0, 0, false, rfl, by simp, by simp [go_sem], by simp [go_sem], by simp [go_sem], by simp [go_sem], by simp [go_sem], by simp [go_sem], by simp [go_sem], by simp [go_sem]⟩⟩ ?_
  intro W hI
  go_loopw [17] (fun i wr => ∃ k : Nat, k ≤ m ∧ i = .int .i64 k ∧ Hid (PickI w n N (some ⟨B1, o1, none⟩) c1 (lowF (fun k => f (k * n + m)) t k) (lowF (fun k => f (m * n + k)) (fun k => -(t k)) k) wr))
    (fun i _ => m - (intOf i).toNat)
  case atStart => exact ⟨0, Nat.zero_le _, rfl, hI⟩
  case round =>
    obtain ⟨k, hk, rfl, hI'⟩ := hrel
    clear hI
    by_cases hlt : k < m
    · obtain ⟨li, la, ld, ls, hl, lA⟩ := hI'.out.lo
      obtain ⟨gi, ga, gd, gs, hg, gA⟩ := hI'.out.hi
      have hl' := Lib.hid hl
      have hg' := Lib.hid hg
      obtain ⟨x1, x2⟩ := HC2.out k hlt
      have kB := hI'.out.below
      have y1 := (kB.cell (p := ⟨B2, o2 + k * 2, none⟩) hB2).trans x1
      have y2 := (kB.cell (p := ⟨B2, o2 + (k * 2 + 1), none⟩) hB2).trans x2
      clear hl hg x1 x2
      have hq8 : ∃ ta td, q8T t k = (ta, td) := ⟨_, _, rfl⟩
      obtain ⟨ta, td, htt⟩ := hq8
      rw [htt] at y1 y2
      have hT := Lib.hid htt
      clear htt
      obtain ⟨qk, hqk⟩ : ∃ q : Nat, Hid (q = k * n) := ⟨_, rfl⟩
      obtain ⟨qm, hqm⟩ : ∃ q : Nat, Hid (q = m * n) := ⟨_, rfl⟩
      have ek : (k : Int) * (n : Int) = (qk : Int) := by rw [hqk.out]; push_cast; rfl
      have em : (m : Int) * (n : Int) = (qm : Int) := by rw [hqm.out]; push_cast; rfl
      have lk := PL.out k m (by omega) hm
      have lm := PL.out m k hm (by omega)
      rw [← hqk.out] at lk
      rw [← hqm.out] at lm
      obtain ⟨bg, hbg⟩ : ∃ b, Hid (b = f (qk + m)) := ⟨_, rfl⟩
      obtain ⟨bh, hbh⟩ : ∃ b, Hid (b = f (qm + k)) := ⟨_, rfl⟩
      have g1 := (kB.cell (p := ⟨B1, o1 + (qk + m), none⟩) hB1).trans (HC1.out _ lk)
      have g2 := (kB.cell (p := ⟨B1, o1 + (qm + k), none⟩) hB1).trans (HC1.out _ lm)
      rw [← hbg.out] at g1
      rw [← hbh.out] at g2
      obtain ⟨ri, ra, rd, rs, hr⟩ := endL_raw (lowF (fun k => f (k * n + m)) t (k + 1))
      obtain ⟨vi, va, vd, vs, hv⟩ := endH_raw (lowF (fun k => f (m * n + k)) (fun k => -(t k)) (k + 1))
      have NL : Hid (∀ W, Calls Tryz.prog 97 #[.agg #[.bool li, .int .i64 la, .int .i64 ld, .bool ls], .int .i64 bg, .agg #[.int .i64 ta, .int .i64 td], .int .i64 1] W (Gives W (.agg #[.bool ri, .int .i64 ra, .int .i64 rd, .bool rs]))) := fun W => by
        have e1 : (q8 (t k)).1 = ta := congrArg Prod.fst hT.out
        have e2 : (q8 (t k)).2 = td := congrArg Prod.snd hT.out
        have hbk : bg = f (k * n + m) := by rw [hbg.out, hqk.out]
        rw [← hl'.out, ← hr, ← e1, ← e2, hbk]
        exact near_low _ _ (t k) W (low_ok fun j hj hne => (HOK.out.lo j (by omega) hne).2) (HOK.out.lob k hlt) (HOK.out.ts k hlt) (HOK.out.lo k hlt)
      have NH : Hid (∀ W, Calls Tryz.prog 97 #[.agg #[.bool gi, .int .i64 ga, .int .i64 gd, .bool gs], .int .i64 bh, .agg #[.int .i64 ta, .int .i64 td], .int .i64 (-1)] W (Gives W (.agg #[.bool vi, .int .i64 va, .int .i64 vd, .bool vs]))) := fun W => by
        have e1 : (q8 (t k)).1 = ta := congrArg Prod.fst hT.out
        have e2 : (q8 (t k)).2 = td := congrArg Prod.snd hT.out
        have hbk : bh = f (m * n + k) := by rw [hbh.out, hqm.out]
        rw [← hg'.out, ← hv, ← e1, ← e2, hbk]
        exact near_high _ _ (t k) W (low_ok fun j hj hne => by
          have := (HOK.out.hi j (by omega) hne).2.neg
          rwa [show -(t j + 8 * (f (m * n + j) / 2)) = -(t j) - 8 * (f (m * n + j) / 2) from by omega] at this) (HOK.out.hib k hlt) (HOK.out.ts k hlt) (HOK.out.hi k hlt)
      have hr' := Lib.hid hr
      have hv' := Lib.hid hv
      have ksz := kB.size
      have lAl := lA.lt
      have gAl := gA.lt
      have i1 : (0 : Int) ≤ (qk : Int) + (m : Int) := by omega
      have i2 : (0 : Int) ≤ (qm : Int) + (k : Int) := by omega
      have i3 : (qk : Int) + (m : Int) < (N : Int) := by omega
      have i4 : (qm : Int) + (k : Int) < (N : Int) := by omega
      have i5 : ((qk : Int) + (m : Int)).toNat = qk + m := by omega
      have i6 : ((qm : Int) + (k : Int)).toNat = qm + k := by omega
      have i7 : IntKind.i64.wrap (qk : Int) = (qk : Int) := IntWalk.i64_in _ (by omega)
      have i8 : IntKind.i64.wrap (qm : Int) = (qm : Int) := IntWalk.i64_in _ (by omega)
      have i9 : IntKind.i64.wrap ((qk : Int) + (m : Int)) = (qk : Int) + (m : Int) := IntWalk.i64_in _ (by omega)
      have i10 : IntKind.i64.wrap ((qm : Int) + (k : Int)) = (qm : Int) + (k : Int) := IntWalk.i64_in _ (by omega)
      clear hr hv hl' hg' hT
      have HI := Lib.hid hI'.out
      go_wp2
      obtain ⟨A, hA⟩ : ∃ A, Hid (A = wr.heap.size) := ⟨_, rfl⟩
      rw [← hA.out]
      refine wp_world (fun W => Below wr.heap.size wr W ∧ A < W.heap.size ∧ W.cell? ⟨A, 0, none⟩ = some (.int .i64 ta) ∧ W.cell? ⟨A, 1, none⟩ = some (.int .i64 td)) ⟨by (repeat' (first | (with_reducible assumption) | (with_reducible exact Below.refl _ _) | (with_reducible refine below_wov ?_ ?_ _) | (with_reducible refine below_drewN ?_ _) | (with_reducible refine Below.drew ?_) | (with_reducible refine Below.alloc ?_ ?_ _) | (with_reducible refine Below.setCell ?_ ?_ _) | (with_reducible exact Nat.le_refl _) | omega | (simp only [World.size_alloc, World.size_setCell, World.size_drew, Wov_size, World.heap_drewN]; omega))), by rw [hA.out]; simp, by rw [hA.out]; simp [go_sem], by rw [hA.out]; simp [go_sem]⟩ ?_
      rintro W ⟨hbW, hAW, t0, t1⟩
      have hbW' := hbW
      have d0 := (hbW.cell (p := ⟨w.heap.size, 0, none⟩) (by show w.heap.size < _; omega)).trans HI.out.d0
      have d1 := (hbW.cell (p := ⟨w.heap.size, 1, none⟩) (by show w.heap.size < _; omega)).trans HI.out.d1
      have b1 := (hbW.cell (p := ⟨B1, o1 + (qk + m), none⟩) (by show B1 < _; omega)).trans g1
      have b2 := (hbW.cell (p := ⟨B1, o1 + (qm + k), none⟩) (by show B1 < _; omega)).trans g2
      have LA := lA.below hbW'
      have GA := gA.below hbW'
      have l0 := LA.c0
      have l1 := LA.c1
      have l2 := LA.c2
      have l3 := LA.c3
      have z0 := LA.z0
      have z1 := LA.z1
      have z2 := LA.z2
      have z3 := LA.z3
      have zl := LA.lt
      have LA' := Lib.hid LA
      have GA' := Lib.hid GA
      have zW := hbW.size
      clear g1 g2 lA gA LA GA hbW'
      have nA2 : ¬ A = w.heap.size + 2 := by have := hA.out; omega
      have nA3 : ¬ A = w.heap.size + 3 := by have := hA.out; omega
      go_still_tail 13, (by kernel_rfl)
      change wpList _ _ _ _ _ W.drew
      go_wp2_with (fail)
      refine (NL.out _).mono ?_; rintro e w' ⟨rfl, qa, rfl⟩
      go_wp2
      refine wp_world (fun V => Chg W (w.heap.size + 2) V ∧ EndAt V (w.heap.size + 2) ri ra rd rs) ?_ ?_
      · have X := set_four (LA'.out.below (by (repeat' (first | (with_reducible assumption) | (with_reducible exact Below.refl _ _) | (with_reducible refine below_wov ?_ ?_ _) | (with_reducible refine below_drewN ?_ _) | (with_reducible refine Below.drew ?_) | (with_reducible refine Below.alloc ?_ ?_ _) | (with_reducible refine Below.setCell ?_ ?_ _) | (with_reducible exact Nat.le_refl _) | omega | (simp only [World.size_alloc, World.size_setCell, World.size_drew, Wov_size, World.heap_drewN]; omega)))) : EndAt (Wov W.drew qa) _ _ _ _ _) ri ra rd rs
        exact ⟨(Chg.of_below (by (repeat' (first | (with_reducible assumption) | (with_reducible exact Below.refl _ _) | (with_reducible refine below_wov ?_ ?_ _) | (with_reducible refine below_drewN ?_ _) | (with_reducible refine Below.drew ?_) | (with_reducible refine Below.alloc ?_ ?_ _) | (with_reducible refine Below.setCell ?_ ?_ _) | (with_reducible exact Nat.le_refl _) | omega | (simp only [World.size_alloc, World.size_setCell, World.size_drew, Wov_size, World.heap_drewN]; omega))))).trans X.2, X.1⟩
      rintro V ⟨hc, rA⟩
      have rA' := Lib.hid rA
      have GV := GA'.out.chg hc (by omega)
      have GV' := Lib.hid GV
      have v0 := (hc.cell (x := 0) (b := w.heap.size) (by omega) (by omega)).trans d0
      have v1 := (hc.cell (x := 1) (b := w.heap.size) (by omega) (by omega)).trans d1
      have v2 := (hc.cell (x := o1 + (qm + k)) (b := B1) (by omega) (by omega)).trans b2
      have v3 := (hc.cell (x := 0) (b := A) hAW nA2).trans t0
      have v4 := (hc.cell (x := 1) (b := A) hAW nA2).trans t1
      have m0 := GV.c0
      have m1 := GV.c1
      have m2 := GV.c2
      have m3 := GV.c3
      have n0 := GV.z0
      have n1 := GV.z1
      have n2 := GV.z2
      have n3 := GV.z3
      have zg := GV.lt
      have zV := hc.size
      clear rA GV d0 d1 b1 b2 t0 t1 l0 l1 l2 l3 z0 z1 z2 z3 zl
      go_still_tail 13, (by kernel_rfl)
      change wpList _ _ _ _ _ V.drew
      go_wp2_with (fail)
      refine (NH.out _).mono ?_; rintro e w' ⟨rfl, qb, rfl⟩
      go_wp2
      have X := set_four (GV'.out.below (below_Wov V qb)) vi va vd vs
      have hc2 := (Chg.of_below (B := w.heap.size + 3) (below_Wov V qb)).trans X.2
      have sA := X.1
      obtain ⟨U, hU⟩ : ∃ U, ((((Wov V qb).setCell ⟨w.heap.size + 3, 0, none⟩ (.bool vi)).setCell ⟨w.heap.size + 3, 1, none⟩ (.int .i64 va)).setCell ⟨w.heap.size + 3, 2, none⟩ (.int .i64 vd)).setCell ⟨w.heap.size + 3, 3, none⟩ (.bool vs) = U := ⟨_, rfl⟩
      rw [hU] at hc2 sA ⊢
      have sA' := Lib.hid sA
      clear sA hU X m0 m1 m2 m3 n0 n1 n2 n3 zg v0 v1 v2 v3 v4
      go_roundw
      case rel =>
        have zU := hc2.size
        have bW : Below w.heap.size w W := kB.trans (hbW.mono ksz)
        have bV : Below w.heap.size w V := bW.trans (hc.belowAt (by omega) (by omega))
        have kc : ∀ b x, b < w.heap.size + 2 → U.cell? ⟨b, x, none⟩ = wr.cell? ⟨b, x, none⟩ := fun b x hb => (hc2.cell (by omega) (by omega)).trans ((hc.cell (by omega) (by omega)).trans (hbW.cell (p := ⟨b, x, none⟩) (by show b < _; omega)))
        have kf : ∀ b x, b < w.heap.size + 2 → U.frozen? ⟨b, x, none⟩ = wr.frozen? ⟨b, x, none⟩ := fun b x hb => (hc2.frozen (by omega) (by omega)).trans ((hc.frozen (by omega) (by omega)).trans (hbW.frozen (p := ⟨b, x, none⟩) (by show b < _; omega)))
        refine ⟨k + 1, hlt, by go_num, bV.trans (hc2.belowAt (by omega) (by omega)), (kc _ _ (by omega)).trans HI.out.d0, (kc _ _ (by omega)).trans HI.out.d1, (kc _ _ (by omega)).trans HI.out.r0, (kc _ _ (by omega)).trans HI.out.r1, (kf _ _ (by omega)).trans HI.out.z0, (kf _ _ (by omega)).trans HI.out.z1, ⟨_, _, _, _, hr'.out, rA'.out.chg hc2 (by omega)⟩, ⟨_, _, _, _, hv'.out, sA'.out⟩⟩
      case measure => simp [intOf]; omega
    · obtain rfl : k = m := by omega
      rw [← hL.out, ← hH.out] at hI'
      have r0 := hI'.out.r0
      have r1 := hI'.out.r1
      have rz0 := hI'.out.z0
      have rz1 := hI'.out.z1
      have kB := hI'.out.below
      have lo := hI'.out.lo
      have hi := hI'.out.hi
      have PF := pick_facts HOK.out hL.out hH.out
      have ksz := kB.size
      have HI := Lib.hid hI'.out
      have rl : w.heap.size + 1 < wr.heap.size := by have := lo.lt'; omega
      clear HC1 HC2 HOK PL hL hH
      rcases L with _ | ⟨y, sy⟩
      · have EL := (lo : AtV _ _ (.agg #[_, _, _, _])).at_
        have e0 := EL.c0
        have e1 := EL.c1
        have e2 := EL.c2
        have e3 := EL.c3
        have e4 := EL.lt
        rcases H with _ | ⟨z, sz⟩
        · have EH := (hi : AtV _ _ (.agg #[_, _, _, _])).at_
          have g0 := EH.c0
          have g1 := EH.c1
          have g2 := EH.c2
          have g3 := EH.c3
          have g4 := EH.lt
          clear lo hi EL EH HI hI' PF
          go_wp2
          refine bodyPost_ret (by simp [results, Tryz.results71, go_sem, r0, r1, rl]; try rfl) rfl ?_
          exact gives_end (by rw [hva.out, hvb.out]; rfl) (by (repeat' (first | (with_reducible assumption) | (with_reducible exact Below.refl _ _) | (with_reducible refine below_wov ?_ ?_ _) | (with_reducible refine below_drewN ?_ _) | (with_reducible refine Below.drew ?_) | (with_reducible refine Below.alloc ?_ ?_ _) | (with_reducible refine Below.setCell ?_ ?_ _) | (with_reducible exact Nat.le_refl _) | omega | (simp only [World.size_alloc, World.size_setCell, World.size_drew, Wov_size, World.heap_drewN]; omega))))
        · have EH := (hi : AtV _ _ (.agg #[_, _, _, _])).at_
          have g0 := EH.c0
          have g1 := EH.c1
          have g2 := EH.c2
          have g3 := EH.c3
          have g4 := EH.lt
          cases sz with
          | false =>
            clear lo hi EL EH HI hI' PF
            go_wp2
            refine bodyPost_ret (by simp [results, Tryz.results71, go_sem, r0, r1, rl]; try rfl) rfl ?_
            exact gives_end (by rw [hva.out, hvb.out]; rfl) (by (repeat' (first | (with_reducible assumption) | (with_reducible exact Below.refl _ _) | (with_reducible refine below_wov ?_ ?_ _) | (with_reducible refine below_drewN ?_ _) | (with_reducible refine Below.drew ?_) | (with_reducible refine Below.alloc ?_ ?_ _) | (with_reducible refine Below.setCell ?_ ?_ _) | (with_reducible exact Nat.le_refl _) | omega | (simp only [World.size_alloc, World.size_setCell, World.size_drew, Wov_size, World.heap_drewN]; omega))))
          | true =>
            have a1 := PF.hi _ _ rfl
            have a2 := PF.res
            simp only [pickE] at a2
            have SH := shift_any (-z) (-1) a1.neg (by unfold ok8; omega) (by have := a2; rwa [show -z - 8 = -z + 8 * (-1) from by omega] at this)
            rw [show -z + 8 * (-1) = -z - 8 from by omega] at SH
            have SH' := Lib.hid SH
            clear lo hi EL EH HI hI' PF a1 a2 SH
            go_wp2_with (fail)
            refine (SH'.out _).mono ?_; rintro e w' ⟨rfl, qs, rfl⟩
            go_wp2
            refine bodyPost_ret (by simp [results, Tryz.results71, go_sem, r0, r1, rl]; try rfl) rfl ?_
            exact gives_end (by rw [hva.out, hvb.out]; rfl) (by (repeat' (first | (with_reducible assumption) | (with_reducible exact Below.refl _ _) | (with_reducible refine below_wov ?_ ?_ _) | (with_reducible refine below_drewN ?_ _) | (with_reducible refine Below.drew ?_) | (with_reducible refine Below.alloc ?_ ?_ _) | (with_reducible refine Below.setCell ?_ ?_ _) | (with_reducible exact Nat.le_refl _) | omega | (simp only [World.size_alloc, World.size_setCell, World.size_drew, Wov_size, World.heap_drewN]; omega))))
      · have EL := (lo : AtV _ _ (.agg #[_, _, _, _])).at_
        have e0 := EL.c0
        have e1 := EL.c1
        have e2 := EL.c2
        have e3 := EL.c3
        have e4 := EL.lt
        rcases H with _ | ⟨z, sz⟩
        · have EH := (hi : AtV _ _ (.agg #[_, _, _, _])).at_
          have g0 := EH.c0
          have g1 := EH.c1
          have g2 := EH.c2
          have g3 := EH.c3
          have g4 := EH.lt
          cases sy with
          | false =>
            clear lo hi EL EH HI hI' PF
            go_wp2
            refine bodyPost_ret (by simp [results, Tryz.results71, go_sem, r0, r1, rl]; try rfl) rfl ?_
            exact gives_end (by rw [hva.out, hvb.out]; rfl) (by (repeat' (first | (with_reducible assumption) | (with_reducible exact Below.refl _ _) | (with_reducible refine below_wov ?_ ?_ _) | (with_reducible refine below_drewN ?_ _) | (with_reducible refine Below.drew ?_) | (with_reducible refine Below.alloc ?_ ?_ _) | (with_reducible refine Below.setCell ?_ ?_ _) | (with_reducible exact Nat.le_refl _) | omega | (simp only [World.size_alloc, World.size_setCell, World.size_drew, Wov_size, World.heap_drewN]; omega))))
          | true =>
            have a1 := PF.lo _ _ rfl
            have a2 := PF.res
            simp only [pickE] at a2
            have SH := shift_any (y) (1) a1 (by unfold ok8; omega) (by have := a2; rwa [show y + 8 = y + 8 * (1) from by omega] at this)
            rw [show y + 8 * (1) = y + 8 from by omega] at SH
            have SH' := Lib.hid SH
            clear lo hi EL EH HI hI' PF a1 a2 SH
            go_wp2_with (fail)
            refine (SH'.out _).mono ?_; rintro e w' ⟨rfl, qs, rfl⟩
            go_wp2
            refine bodyPost_ret (by simp [results, Tryz.results71, go_sem, r0, r1, rl]; try rfl) rfl ?_
            exact gives_end (by rw [hva.out, hvb.out]; rfl) (by (repeat' (first | (with_reducible assumption) | (with_reducible exact Below.refl _ _) | (with_reducible refine below_wov ?_ ?_ _) | (with_reducible refine below_drewN ?_ _) | (with_reducible refine Below.drew ?_) | (with_reducible refine Below.alloc ?_ ?_ _) | (with_reducible refine Below.setCell ?_ ?_ _) | (with_reducible exact Nat.le_refl _) | omega | (simp only [World.size_alloc, World.size_setCell, World.size_drew, Wov_size, World.heap_drewN]; omega))))
        · have EH := (hi : AtV _ _ (.agg #[_, _, _, _])).at_
          have g0 := EH.c0
          have g1 := EH.c1
          have g2 := EH.c2
          have g3 := EH.c3
          have g4 := EH.lt
          cases sy with
          | false =>
            clear lo hi EL EH HI hI' PF
            go_wp2
            refine bodyPost_ret (by simp [results, Tryz.results71, go_sem, r0, r1, rl]; try rfl) rfl ?_
            exact gives_end (by rw [hva.out, hvb.out]; rfl) (by (repeat' (first | (with_reducible assumption) | (with_reducible exact Below.refl _ _) | (with_reducible refine below_wov ?_ ?_ _) | (with_reducible refine below_drewN ?_ _) | (with_reducible refine Below.drew ?_) | (with_reducible refine Below.alloc ?_ ?_ _) | (with_reducible refine Below.setCell ?_ ?_ _) | (with_reducible exact Nat.le_refl _) | omega | (simp only [World.size_alloc, World.size_setCell, World.size_drew, Wov_size, World.heap_drewN]; omega))))
          | true =>
            cases sz with
            | false =>
              clear lo hi EL EH HI hI' PF
              go_wp2
              refine bodyPost_ret (by simp [results, Tryz.results71, go_sem, r0, r1, rl]; try rfl) rfl ?_
              exact gives_end (by rw [hva.out, hvb.out]; rfl) (by (repeat' (first | (with_reducible assumption) | (with_reducible exact Below.refl _ _) | (with_reducible refine below_wov ?_ ?_ _) | (with_reducible refine below_drewN ?_ _) | (with_reducible refine Below.drew ?_) | (with_reducible refine Below.alloc ?_ ?_ _) | (with_reducible refine Below.setCell ?_ ?_ _) | (with_reducible exact Nat.le_refl _) | omega | (simp only [World.size_alloc, World.size_setCell, World.size_drew, Wov_size, World.heap_drewN]; omega))))
            | true =>
              have a1 := PF.lo _ _ rfl
              have a2 := (PF.hi _ _ rfl).neg
              have a3 := PF.even _ _ _ _ rfl rfl
              have a4 := PF.res
              simp only [pickE] at a4
              have MD := ratMid_any (q8 y).1 (q8 y).2 (q8 (-z)).1 (q8 (-z)).2 (q8_fits a1) (q8_fits a2)
              rw [mid8 (m := (y + -z) / 2) a1 a2 (by omega) a4] at MD
              have MD' : Hid (Pure Tryz.prog 100 #[.agg #[.int .i64 (q8 y).1, .int .i64 (q8 y).2], .agg #[.int .i64 (q8 (-z)).1, .int .i64 (q8 (-z)).2]] (.tuple #[.agg #[.int .i64 (q8 ((y + -z) / 2)).1, .int .i64 (q8 ((y + -z) / 2)).2], .int .i64 0])) := MD
              clear lo hi EL EH HI hI' PF a1 a2 a3 a4 MD
              go_wp2_with (fail)
              refine (MD'.out _).mono ?_; rintro e w' ⟨rfl, qs, rfl⟩
              go_wp2
              refine bodyPost_ret (by simp [results, Tryz.results71, go_sem, r0, r1, rl]; try rfl) rfl ?_
              exact gives_end (by rw [hva.out, hvb.out]; rfl) (by (repeat' (first | (with_reducible assumption) | (with_reducible exact Below.refl _ _) | (with_reducible refine below_wov ?_ ?_ _) | (with_reducible refine below_drewN ?_ _) | (with_reducible refine Below.drew ?_) | (with_reducible refine Below.alloc ?_ ?_ _) | (with_reducible refine Below.setCell ?_ ?_ _) | (with_reducible exact Nat.le_refl _) | omega | (simp only [World.size_alloc, World.size_setCell, World.size_drew, Wov_size, World.heap_drewN]; omega))))
#print axioms pick_any
end Go.Proofs.YtpaomeilfmeheaaGreat
