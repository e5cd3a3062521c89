/- Slices of fractions; whether one of them may not be. No condition but that numbers are of their kind. Rows of fractions: what a slice of the call's own holds behind an append of a slice of fractions. No condition. Contract of dbm.Keeps. No condition but on the count of bounds and times, and that numbers are of their kind. Times keep a matrix just if they keep the closed one: plain. No condition. Opening a list of times among a law's arguments. No condition. -/
import Derived.Test.YtpmpapenjcemjaaGreatDoorMC
import Derived.Test.YtpmpapenjcemjaaGreatDoorMA
import Derived.Deep.AppendSrc
import Derived.Test.YtpmpapenjcemjaaGreatDoorFrame2
import Derived.Deep.SlicePairs
namespace Go.Proofs.YtpmpapenjcemjaaGreatDoor
set_option linter.unusedSimpArgs false
set_option linter.unusedVariables false
open Go Go.RowKit Go.Shelf
attribute [local go_sem] Nat.add_assoc Nat.add_lt_add_iff_left lit_lt_add

/-- A slice's elements: fractions. -/
def SlR (W : World) (p : Option Addr) (M : Nat) (T : Nat → Int × Int) : Prop := M = 0 ∨ ∃ B off, p = some ⟨B, off, none⟩ ∧ B < W.heap.size ∧ ∀ x, x < M → W.cell? ⟨B, off + x * 2, none⟩ = some (.int .i64 (T x).1) ∧ W.cell? ⟨B, off + (x * 2 + 1), none⟩ = some (.int .i64 (T x).2)
theorem SlR.below {W W' : World} {p : Option Addr} {N : Nat} {T : Nat → Int × Int} (h : SlR W p N T) (hb : Below W.heap.size W W') : SlR W' p N T := by
  rcases h with h | ⟨B, off, h1, h2, h3⟩
  · exact .inl h
  · exact .inr ⟨B, off, h1, Nat.lt_of_lt_of_le h2 hb.size, fun x hx => ⟨(hb.cell (p := ⟨B, off + x * 2, none⟩) h2).trans (h3 x hx).1, (hb.cell (p := ⟨B, off + (x * 2 + 1), none⟩) h2).trans (h3 x hx).2⟩⟩
def FitsR (M : Nat) (T : Nat → Int × Int) : Prop := ∀ x, x < M → fits64 (T x).1 ∧ fits64 (T x).2
def allRat (M : Nat) (T : Nat → Int × Int) : Bool := (List.range M).all fun x => okRat (T x).1 (T x).2
theorem allRat_t {M : Nat} {T : Nat → Int × Int} (h : ∀ x, x < M → okRat (T x).1 (T x).2 = true) : allRat M T = true := by
  unfold allRat; rw [List.all_eq_true]; intro x hx; exact h x (by simpa using hx)
theorem allRat_f {M t : Nat} {T : Nat → Int × Int} (ht : t < M) (h : okRat (T t).1 (T t).2 = false) : allRat M T = false := by
  unfold allRat; rw [List.all_eq_false]; exact ⟨t, by simpa using ht, by simp [h]⟩
theorem allRat_iff {M : Nat} {T : Nat → Int × Int} : allRat M T = true ↔ ∀ x, x < M → okRat (T x).1 (T x).2 = true := by
  unfold allRat; rw [List.all_eq_true]
  constructor
  · intro h x hx; exact h x (by simpa using hx)
  · intro h x hx; exact h x (by simpa using hx)

set_option maxRecDepth 10000 in
set_option maxHeartbeats 400000 in
theorem keeps1_any (n d : Int) (h : fits64 n) : Pure Tryz.prog 85 #[.agg #[.int .i64 n, .int .i64 d]] (.bool (!okRat n d)) := by
  intro w
  have C := ratCheck_any n d h.1 h.2
  obtain ⟨s, hs⟩ : ∃ s, s = okRat n d := ⟨_, rfl⟩
  rw [← hs] at C ⊢
  clear hs
  cases s
  all_goals
    simp only [rcode, if_true, Bool.false_eq_true, if_false] at C
    go_enter Tryz.func85, Tryz.ntmps85
    go_wp2_with (fail)
    refine (C _).mono ?_; rintro e w' ⟨rfl, p, rfl⟩
    go_wp2
    go_ret
    exact gives_bool rfl (by (repeat' (first | (with_reducible assumption) | (with_reducible exact Below.refl _ _) | (with_reducible refine below_wov ?_ ?_ _) | (with_reducible refine below_drewN ?_ _) | (with_reducible refine Below.drew ?_) | (with_reducible refine Below.alloc ?_ ?_ _) | (with_reducible refine Below.setCell ?_ ?_ _) | (with_reducible exact Nat.le_refl _) | omega | (simp only [World.size_alloc, World.size_setCell, World.size_drew, Wov_size, World.heap_drewN]; omega))))

def idxRPost (w : World) (N : Nat) (T : Nat → Int × Int) (e : Ending) (w' : World) : Prop := ∃ i : Int, e = .returned (.int .i64 i) ∧ decide (0 ≤ i) = !allRat N T ∧ ∃ p, w' = Wov w p

set_option maxRecDepth 10000 in
set_option maxHeartbeats 1000000 in
theorem indexR_any (p : Option Addr) (N cap : Nat) (T : Nat → Int × Int) (w : World) (hS : SlR w p N T) (hF : FitsR N T) (hN : N ≤ 4611686018427387903) :
    Calls Tryz.prog 130 #[.slice p N cap, .func (.func 85) #[] #[]] w (idxRPost w N T) := by
  go_enter Tryz.func130, Tryz.ntmps130
  go_wp2
  go_loopw [5, 8, 9, 10, 11, 12, 13, 14, 15, 16, 18] (fun _ i _ _ _ _ _ _ _ _ _ wr => ∃ t : Nat, t ≤ N ∧ i = .int .i64 t ∧ Hid (∀ x, x < t → okRat (T x).1 (T x).2 = true) ∧ ∃ q, wr = Wov w q)
    (fun _ i _ _ _ _ _ _ _ _ _ _ => N - (intOf i).toNat)
  case atStart => exact ⟨0, Nat.zero_le _, rfl, (fun x hx => by omega), ⟨#[], w.drawn⟩, (Wov_self w).symm⟩
  case round =>
    obtain ⟨t, ht, rfl, hpre, q, rfl⟩ := hrel
    by_cases hlt : t < N
    · obtain ⟨B, off, rfl, hB, hc⟩ : ∃ B off, p = some ⟨B, off, none⟩ ∧ B < w.heap.size ∧ ∀ x, x < N → w.cell? ⟨B, off + x * 2, none⟩ = some (.int .i64 (T x).1) ∧ w.cell? ⟨B, off + (x * 2 + 1), none⟩ = some (.int .i64 (T x).2) := by
        rcases hS with h | h
        · omega
        · exact h
      obtain ⟨ct, cd⟩ := hc t hlt
      have C := keeps1_any (T t).1 (T t).2 (hF t hlt).1
      obtain ⟨a, ha⟩ : ∃ a, a = (T t).1 := ⟨_, rfl⟩
      obtain ⟨b, hb⟩ : ∃ b, b = (T t).2 := ⟨_, rfl⟩
      rw [← ha] at ct C
      rw [← hb] at cd C
      have HA := Lib.hid ha
      have HB := Lib.hid hb
      clear ha hb hc hF
      have HC := Lib.hid C
      clear C
      obtain ⟨s, hs⟩ : ∃ s, s = okRat a b := ⟨_, rfl⟩
      rw [← hs] at HC
      have HS := Lib.hid hs
      clear hs
      go_wp2_with (fail)
      refine (HC.out _).mono ?_; rintro e w' ⟨rfl, q2, rfl⟩
      cases s
      · go_wp2
        go_ret
        exact ⟨t, rfl, by rw [allRat_f hlt (by rw [← HA.out, ← HB.out, ← HS.out])]; simp, _, rfl⟩
      · go_wp2
        go_roundw
        case rel =>
          refine ⟨t + 1, hlt, by go_num, fun x hx => ?_, _, rfl⟩
          by_cases e : x = t
          · subst e; rw [← HA.out, ← HB.out, ← HS.out]
          · exact hpre.out x (by omega)
        case measure => simp [intOf]; omega
    · have e : t = N := by omega
      subst e
      go_wp2
      go_ret
      exact ⟨-1, rfl, by rw [allRat_t hpre.out]; rfl, _, rfl⟩

set_option maxRecDepth 10000 in
set_option maxHeartbeats 400000 in
theorem containsR_any (p : Option Addr) (N cap : Nat) (T : Nat → Int × Int) (w : World) (hS : SlR w p N T) (hF : FitsR N T) (hN : N ≤ 4611686018427387903) :
    Calls Tryz.prog 84 #[.slice p N cap, .func (.func 85) #[] #[]] w (Gives w (.bool (!allRat N T))) := by
  have I := Lib.hid (indexR_any p N cap T w hS hF hN)
  clear hS hF
  go_enter Tryz.func84, Tryz.ntmps84
  go_wp2_with (fail)
  refine I.out.mono ?_
  rintro e w' ⟨i, rfl, hi, q, rfl⟩
  have HI := Lib.hid hi
  clear hi
  go_wp2
  go_ret
  exact gives_bool HI.out (by (repeat' (first | (with_reducible assumption) | (with_reducible exact Below.refl _ _) | (with_reducible refine below_wov ?_ ?_ _) | (with_reducible refine below_drewN ?_ _) | (with_reducible refine Below.drew ?_) | (with_reducible refine Below.alloc ?_ ?_ _) | (with_reducible refine Below.setCell ?_ ?_ _) | (with_reducible exact Nat.le_refl _) | omega | (simp only [World.size_alloc, World.size_setCell, World.size_drew, Wov_size, World.heap_drewN]; omega))))
end Go.Proofs.YtpmpapenjcemjaaGreatDoor

namespace Go.Proofs.YtpmpapenjcemjaaGreatDoor
set_option linter.unusedSimpArgs false
set_option linter.unusedVariables false
open Go Go.RowKit Go.Shelf

/-- The cells of some fractions. -/
def cellsR (T : Nat → Int × Int) : Nat → List Value
  | 0 => []
  | M + 1 => cellsR T M ++ [.int .i64 (T M).1, .int .i64 (T M).2]
theorem cellsR_len (T : Nat → Int × Int) : ∀ M, (cellsR T M).length = M * 2
  | 0 => rfl
  | M + 1 => by simp only [cellsR, List.length_append, cellsR_len T M, List.length_cons, List.length_nil]; omega
theorem cellsR_get {T : Nat → Int × Int} : ∀ {M x : Nat}, x < M → (cellsR T M)[x * 2]? = some (.int .i64 (T x).1) ∧ (cellsR T M)[x * 2 + 1]? = some (.int .i64 (T x).2)
  | 0, x, h => by omega
  | M + 1, x, h => by
    by_cases e : x = M
    · subst e
      have hl := cellsR_len T x
      constructor
      · rw [cellsR, List.getElem?_append_right (by omega), hl, Nat.sub_self]; rfl
      · rw [cellsR, List.getElem?_append_right (by omega), hl, show x * 2 + 1 - x * 2 = 1 by omega]; rfl
    · have hl := cellsR_len T M
      obtain ⟨h1, h2⟩ := cellsR_get (T := T) (M := M) (x := x) (by omega)
      exact ⟨by rw [cellsR, List.getElem?_append_left (by omega)]; exact h1, by rw [cellsR, List.getElem?_append_left (by omega)]; exact h2⟩
theorem cellsR_get' {T : Nat → Int × Int} {M j : Nat} {u : Value} (h : (cellsR T M)[j]? = some u) : ∃ x, x < M ∧ ((j = x * 2 ∧ u = .int .i64 (T x).1) ∨ (j = x * 2 + 1 ∧ u = .int .i64 (T x).2)) := by
  have hj : j < M * 2 := by
    have := (List.getElem?_eq_some_iff.1 h).1
    rwa [cellsR_len] at this
  refine ⟨j / 2, by omega, ?_⟩
  obtain ⟨h1, h2⟩ := cellsR_get (T := T) (M := M) (x := j / 2) (by omega)
  by_cases e : j % 2 = 0
  · left
    have e2 : j / 2 * 2 = j := by omega
    rw [e2, h] at h1
    exact ⟨by omega, by cases h1; rfl⟩
  · right
    have e2 : j / 2 * 2 + 1 = j := by omega
    rw [e2, h] at h2
    exact ⟨by omega, by cases h2; rfl⟩
theorem cellsR_one {T : Nat → Int × Int} {M : Nat} : ∀ u ∈ cellsR T M, u.oneCell' = true := by
  intro u hu
  obtain ⟨j, hj⟩ := List.getElem?_of_mem hu
  obtain ⟨x, _, ⟨_, rfl⟩ | ⟨_, rfl⟩⟩ := cellsR_get' hj <;> rfl
/-- The times, that of clock 0 ahead. -/
def tm (T : Nat → Int × Int) : Nat → Int × Int
  | 0 => (0, 1)
  | x + 1 => T x
theorem cellsR_tm (T : Nat → Int × Int) : ∀ M, [Value.int .i64 0, .int .i64 1] ++ cellsR T M = cellsR (tm T) (M + 1)
  | 0 => rfl
  | M + 1 => by
    show [Value.int .i64 0, .int .i64 1] ++ (cellsR T M ++ _) = cellsR (tm T) (M + 1) ++ _
    rw [← List.append_assoc, cellsR_tm T M]; rfl
theorem infoR : (Tryz.prog.info? 51).map (fun i => (i.size, i.bytes)) = some (2, 16) := by kernel_rfl
theorem infoRz : (Tryz.prog.info? 51).map (fun i => i.zero) = some (some (.agg #[.int .i64 0, .int .i64 0])) := by kernel_rfl

/-- A block whose first cells hold fractions. -/
def HoldsR (W : World) (B M : Nat) (T : Nat → Int × Int) : Prop := ∀ x, x < M → W.cell? ⟨B, x * 2, none⟩ = some (.int .i64 (T x).1) ∧ W.cell? ⟨B, x * 2 + 1, none⟩ = some (.int .i64 (T x).2)
theorem HoldsR.below {W W' : World} {B M k : Nat} {T : Nat → Int × Int} (h : HoldsR W B M T) (hb : Below k W W') (hk : B < k) : HoldsR W' B M T := fun x hx =>
  ⟨(hb.cell (p := ⟨B, x * 2, none⟩) hk).trans (h x hx).1, (hb.cell (p := ⟨B, x * 2 + 1, none⟩) hk).trans (h x hx).2⟩
theorem holdsR_of_row {W : World} {base e N : Nat} {v : Value} {T : Nat → Int × Int} (h0 : 0 < N) (h : W.ownsRow base e 2 v N (cellsR T N)) : ∃ B cap, v = .slice (some ⟨B, 0, none⟩) N cap ∧ base ≤ B ∧ B < W.heap.size ∧ HoldsR W B N T := by
  obtain ⟨_, ⟨_, hn⟩ | ⟨g, cap, cur, rfl, hb, hg, h1, h2, h3, h4⟩⟩ := h
  · omega
  · refine ⟨g, cap, rfl, hb, (Array.getElem?_eq_some_iff.1 hg).1, fun x hx => ?_⟩
    obtain ⟨h5, h6⟩ := cellsR_get (T := T) hx
    rw [← h4, List.getElem?_take, if_pos (by omega)] at h5 h6
    constructor
    · simp [World.cell?, hg]; simpa using h5
    · simp [World.cell?, hg]; simpa using h6

/-- A row that a slice's literal has made. -/
theorem row_lit (W : World) (T : Nat → Int × Int) (base : Nat) (hb : base ≤ W.heap.size) : (W.alloc (.cells #[.int .i64 0, .int .i64 1] 51)).ownsRow base 51 2 (.slice (some ⟨W.heap.size, 0, none⟩) 1 1) 1 [.int .i64 0, .int .i64 1] :=
  ⟨rfl, .inr ⟨W.heap.size, 1, _, rfl, hb, World.alloc_heap_new W _, by omega, by simp [maxLen], rfl, rfl⟩⟩
/-- An append of nothing. -/
theorem append_nothing (W : World) (b : Nat) (p : Option Addr) (c : Nat) : (Builtin.append_ #[98, 98] 98 #[.slice (some ⟨b, 0, none⟩) 1 1, .slice p 0 c]).run Tryz.prog W = .ok (.slice (some ⟨b, 0, none⟩) 1 1) W := by
  have hi : ∃ i, Tryz.prog.info? 51 = some i := by
    have := infoR
    cases h : Tryz.prog.info? 51 with
    | none => rw [h] at this; cases this
    | some i => exact ⟨i, rfl⟩
  obtain ⟨i, hi⟩ := hi
  have hs : Src Tryz.prog i.size 98 (.slice p 0 c) 0 [] W := by
    cases p with
    | none => exact Src.ofNil W Tryz.underlying98 c
    | some a => exact Src.ofSlice W Tryz.underlying98 a 0 c [] (by simp) (fun j u h => by cases h) (fun u h => by cases h)
  have := run_append_room_src (P := Tryz.prog) W 98 98 98 51 i Tryz.underlying98 hi b 0 1 1 (.slice p 0 c) 0 [] hs (by omega) (fun j h => by cases h) (fun j h => by cases h)
  simpa [World.setCells] using this

def keptAll (n : Nat) (f : Nat → Int) (T : Nat → Int × Int) : Bool := (pairsAll n).all fun x => keptB (tm T x.1.1).1 (tm T x.1.1).2 (tm T x.1.2).1 (tm T x.1.2).2 (f (x.1.1 * n + x.1.2))
/-- Whether times keep a matrix, or the error. -/
def keepsD (n : Int) (N : Nat) (f : Nat → Int) (M : Nat) (T : Nat → Int × Int) : Bool × Int :=
  if okD n N f && allRat M T then (if (M : Int) = n - 1 then (keptAll n.toNat f T, 0) else (false, 40)) else (false, 8)
theorem keptAll_iff {n : Nat} {f : Nat → Int} {T : Nat → Int × Int} : keptAll n f T = true ↔ ∀ i j, i < n → j < n → keptB (tm T i).1 (tm T i).2 (tm T j).1 (tm T j).2 (f (i * n + j)) = true := by
  unfold keptAll
  rw [List.all_eq_true]
  constructor
  · intro h i j hi hj
    obtain ⟨x, hx, he⟩ := pairsUpto_mem (n * n) (Nat.le_refl _) i j hj (place_lt hi hj)
    have := h x hx
    rw [he] at this
    exact this
  · intro h x _
    exact h x.1.1 x.1.2 x.2.1 x.2.2
end Go.Proofs.YtpmpapenjcemjaaGreatDoor

namespace Go.Proofs.YtpmpapenjcemjaaGreatDoor
set_option linter.unusedSimpArgs false
set_option linter.unusedVariables false
open Go Go.RowKit Go.Shelf
attribute [local go_sem] Oper.semAt_some Nat.add_assoc Nat.add_lt_add_iff_left lit_lt_add

/-- The times, behind that of clock 0: one append, of however many. -/
theorem wpListIn_all {F : Fence} {r : Nat} {ops : Array Oper} {rest : List Oper} {o : Oper} {a : Act} {Q : Exit → Act → World → Prop} (X : World) (g : Nat) (hgx : X.heap.size = g)
    (hgd : o.guard = none) (s x : Operand) (hop : o.op = Op.call { callee := Callee.builtin Builtin.append, args := #[s, x], argTypes := #[98, 98] }) (hty : o.type = 98)
    (hs : a.eval s = .slice (some ⟨g, 0, none⟩) 1 1) (q : Option Addr) (M cq : Nat) (T : Nat → Int × Int) (hx : a.eval x = .slice q M cq) (hR : SlR X q M T) (hM : M ≤ 1000000)
    (h : ∀ Z cap w', Below g (X.alloc (.cells #[.int .i64 0, .int .i64 1] 51)) w' → g ≤ Z → Z < w'.heap.size → HoldsR w' Z (M + 1) (tm T) → wpListIn F r Tryz.prog ops Q rest (a.put o.dst (.slice (some ⟨Z, 0, none⟩) (M + 1) cap)) w') :
    wpListIn F r Tryz.prog ops Q (o :: rest) a (X.alloc (.cells #[.int .i64 0, .int .i64 1] 51)) := by
  refine wpListIn_plain hgd fun K hK' => ?_
  subst hgx
  unfold Oper.wpIn
  refine ⟨by simp [Oper.about, hop, resolve, Target.leads, Sem.run_pure], ?_⟩
  rw [Oper.semAt_plain F _ _ (by rw [hop]; intro c hc'; cases hc')]
  by_cases h0 : M = 0
  · subst h0
    have hrun := append_nothing (X.alloc (.cells #[.int .i64 0, .int .i64 1] 51)) X.heap.size q cq
    simp [execOp, hop, hty, resolve, invoke, builtin, hs, hx, hrun, Result.andThen]
    refine hK' _ _ (h X.heap.size 1 _ (Below.refl _ _) (Nat.le_refl _) (by simp) ?_)
    intro y hy
    obtain rfl : y = 0 := by omega
    constructor <;> simp [go_sem, tm]
  · obtain ⟨B, off, rfl, hB, hc⟩ : ∃ B off, q = some ⟨B, off, none⟩ ∧ B < X.heap.size ∧ ∀ x, x < M → X.cell? ⟨B, off + x * 2, none⟩ = some (.int .i64 (T x).1) ∧ X.cell? ⟨B, off + (x * 2 + 1), none⟩ = some (.int .i64 (T x).2) := by
      rcases hR with h | h
      · omega
      · exact h
    obtain ⟨i0, hi, hz1, hz2⟩ : ∃ i0, Tryz.prog.info? 51 = some i0 ∧ i0.size = 2 ∧ i0.bytes = 16 := by
      have := infoR
      cases h : Tryz.prog.info? 51 with
      | none => rw [h] at this; cases this
      | some i => rw [h] at this; simp at this; exact ⟨i, rfl, this.1, this.2⟩
    have hz0 : i0.zero = some (.agg #[.int .i64 0, .int .i64 0]) := by
      have := infoRz
      rw [hi] at this; simpa using this
    obtain ⟨v', w', hrun, r1, r2, r3⟩ := run_append_own (P := Tryz.prog) (X.alloc (.cells #[.int .i64 0, .int .i64 1] 51)) X.heap.size 98 98 51 i0 (.agg #[.int .i64 0, .int .i64 0]) 2 16 Tryz.underlying98 hi hz0 hz1 hz2 rfl (by decide) _ 1 _ (row_lit X T X.heap.size (Nat.le_refl _)) ⟨B, off, none⟩ M cq (cellsR T M) (cellsR_len T M)
      (fun j u hj => by
        rw [Addr.add_lit]
        obtain ⟨y, hy, ⟨rfl, rfl⟩ | ⟨rfl, rfl⟩⟩ := cellsR_get' hj
        · exact (World.cell?_alloc_lt _ _ _ hB).trans (hc y hy).1
        · exact (World.cell?_alloc_lt _ _ _ hB).trans (hc y hy).2) cellsR_one (by unfold maxLen; omega) (by omega) (by simp)
    rw [cellsR_tm, Nat.add_comm 1 M] at r1
    obtain ⟨Z, cap, rfl, z1, z2, z3⟩ := holdsR_of_row (by omega) r1
    simp [execOp, hop, hty, resolve, invoke, builtin, hs, hx, hrun, Result.andThen]
    refine hK' _ _ (h Z cap _ ⟨r2.os, r2.tape, r2.output, r2.size, fun k hk => r2.block k (by simp; omega) (fun e => by simp [Value.ownBlock] at e; omega)⟩ z1 z2 z3)

theorem at_wovo {M B off n N cap : Nat} {W : World} (hn : n ≤ 4) (hN2 : N ≤ 9223372036854775807) (hM : M < W.heap.size)
    (c0 : W.cell? ⟨M, 0, none⟩ = some (.int .i64 n)) (c1 : W.cell? ⟨M, 1, none⟩ = some (.slice (some ⟨B, off, none⟩) N cap)) (i j : Nat) (hi : i ≤ 4) (hj : j ≤ 4) (hN : i * n + j < N) (p : Gr) :
    Calls Tryz.prog 88 #[.pointer (some ⟨M, 0, none⟩), .int .i64 i, .int .i64 j] (Wov W p) fun e w' => e = .returned (.pointer (some ⟨B, off + (i * n + j), none⟩)) ∧ ∃ q, w' = Wov W q :=
  (at_off M B off n i j N cap (Wov W p) hn hi hj hN hN2 (by rw [Wov_cell_past _ _ _ _ hM]; exact c0) (by rw [Wov_cell_past _ _ _ _ hM]; exact c1)).mono fun e w' ⟨he, m, hm⟩ => ⟨he, _, hm.trans (Wov_drewN _ _ _)⟩

def keptP {n : Nat} (f : Nat → Int) (T : Nat → Int × Int) (x : PairC n) : Bool := keptB (tm T x.1.1).1 (tm T x.1.1).2 (tm T x.1.2).1 (tm T x.1.2).2 (f (x.1.1 * n + x.1.2))

set_option maxRecDepth 100000 in
set_option maxHeartbeats 4000000 in
theorem keeps_in (n N : Nat) (p : Option Addr) (cap : Nat) (f : Nat → Int) (q : Option Addr) (M cq : Nat) (T : Nat → Int × Int) (w : World) (hNn : N = n * n) (hM : M + 1 = n) (hn : n ≤ 4) (hS : SlP w p N f) (hF : Fits N f) (hok : okD n N f = true) (hR : SlR w q M T) (hFR : FitsR M T) (har : allRat M T = true) :
    CallsIn Fence.wide 3 Tryz.prog 42 #[.agg #[.int .i64 n, .slice p N cap], .slice q M cq] w (Gives w (bpair (keepsD n N f M T))) := by
  have HN := Lib.hid hNn
  have hq := Nat.mul_le_mul hn hn
  rw [← hNn] at hq
  have R : Hid (keepsD n N f M T = (keptAll n f T, 0)) := by
    show _ = _
    unfold keepsD
    rw [hok, har]
    show (if (true && true) = true then (if (M : Int) = (n : Int) - 1 then (keptAll (n : Int).toNat f T, (0 : Int)) else (false, 40)) else (false, 8)) = _
    simp only [Bool.and_self, if_true]
    rw [if_pos (by omega)]; rfl
  have CK : Hid (∀ w', Below w.heap.size w w' → Calls Tryz.prog 83 #[.agg #[.int .i64 n, .slice p N cap]] w' (Gives w' (.int .i64 0))) := fun w' hb => by
    have := dbmCheck_any n p N cap f w' (by unfold fits64; omega) (hS.below hb) hF (by omega)
    rwa [hok] at this
  have CR : Hid (∀ w', Below w.heap.size w w' → Calls Tryz.prog 84 #[.slice q M cq, .func (.func 85) #[] #[]] w' (Gives w' (.bool false))) := fun w' hb => by
    have := containsR_any q M cq T w' (hR.below hb) hFR (by omega)
    rwa [har] at this
  have SR : Hid (∀ w', Below w.heap.size w w' → SlR w' q M T) := fun w' hb => hR.below hb
  have OKR : Hid (∀ x, x < n → okRat (tm T x).1 (tm T x).2 = true ∧ fits64 (tm T x).1) := fun x hx => by
    cases x with
    | zero => exact ⟨(by decide : okRat 0 1 = true), (by decide : fits64 0)⟩
    | succ x => exact ⟨allRat_iff.1 har x (by omega), (hFR x (by omega)).1⟩
  have OKF : Hid (Fits N f ∧ ∀ i j, i < n → j < n → okB (f (i * n + j)) = true) := ⟨hF, fun i j hi hj => bd_okB ((okD_bd (n := n) (f := f) (by rw [← hNn]; exact hok)).2.2 i j hi hj) (by omega)⟩
  have hMn : ((M : Int) != (n : Int) - 1) = false := by rw [bne_eq_false_iff_eq]; omega
  have hMn2 : ((M : Int) != (M : Int)) = false := by simp
  have hM2 : M ≤ 1000000 := by omega
  have hMM : (n : Int) - 1 = (M : Int) := by omega
  have hn0 : 1 ≤ n := by omega
  have hN1 : 1 * 1 ≤ n * n := Nat.mul_le_mul hn0 hn0
  obtain ⟨B, off, rfl, hB, hCf⟩ : ∃ B off, p = some ⟨B, off, none⟩ ∧ B < w.heap.size ∧ Hid (∀ x, x < N → w.cell? ⟨B, off + x, none⟩ = some (.int .i64 (f x))) := by
    rcases hS with h | h
    · omega
    · exact h
  clear hS hF hR hFR hok har hNn
  refine callsIn_of_wp_marks Tryz.func42 rfl trivial ?_ rfl
  simp only [Tryz.ntmps42, List.size_toArray, List.length_cons, List.length_nil, Nat.reduceAdd, Nat.reduceSub, Array.replicate_succ, Array.replicate_zero, List.push_toArray, List.append_toArray, List.nil_append, List.cons_append]
  gi_wp2_with (first
    | (refine ⟨trivial, ?_⟩; gi_at_call 83; refine (callsIn_wide.2 (CK.out _ (by (repeat' (first | (with_reducible assumption) | (with_reducible exact Below.refl _ _) | (with_reducible refine below_wov ?_ ?_ _) | (with_reducible refine below_drewN ?_ _) | (with_reducible refine Below.drew ?_) | (with_reducible refine Below.alloc ?_ ?_ _) | (with_reducible refine Below.setCell ?_ ?_ _) | (with_reducible exact Nat.le_refl _) | omega | (simp only [World.size_alloc, World.size_setCell, World.size_drew, Wov_size, World.heap_drewN]; omega)))))).mono ?_; rintro e w' ⟨rfl, p1, rfl⟩)
    | (refine ⟨trivial, ?_⟩; gi_at_call 84; refine (callsIn_wide.2 (CR.out _ (by (repeat' (first | (with_reducible assumption) | (with_reducible exact Below.refl _ _) | (with_reducible refine below_wov ?_ ?_ _) | (with_reducible refine below_drewN ?_ _) | (with_reducible refine Below.drew ?_) | (with_reducible refine Below.alloc ?_ ?_ _) | (with_reducible refine Below.setCell ?_ ?_ _) | (with_reducible exact Nat.le_refl _) | omega | (simp only [World.size_alloc, World.size_setCell, World.size_drew, Wov_size, World.heap_drewN]; omega)))))).mono ?_; rintro e w' ⟨rfl, p2, rfl⟩)
    | (gi_at_builtin; refine wpListIn_all _ _ (by simp only [World.size_alloc, Wov_size, Array.size_append]; omega) rfl _ _ rfl rfl rfl q M cq T rfl (SR.out _ (by (repeat' (first | (with_reducible assumption) | (with_reducible exact Below.refl _ _) | (with_reducible refine below_wov ?_ ?_ _) | (with_reducible refine below_drewN ?_ _) | (with_reducible refine Below.drew ?_) | (with_reducible refine Below.alloc ?_ ?_ _) | (with_reducible refine Below.setCell ?_ ?_ _) | (with_reducible exact Nat.le_refl _) | omega | (simp only [World.size_alloc, World.size_setCell, World.size_drew, Wov_size, World.heap_drewN]; omega))))) hM2 ?_; intro Z zc w1 hb1 hz1 hz2 hz3
       have hbw : Below w.heap.size w w1 := Below.trans (by (repeat' (first | (with_reducible assumption) | (with_reducible exact Below.refl _ _) | (with_reducible refine below_wov ?_ ?_ _) | (with_reducible refine below_drewN ?_ _) | (with_reducible refine Below.drew ?_) | (with_reducible refine Below.alloc ?_ ?_ _) | (with_reducible refine Below.setCell ?_ ?_ _) | (with_reducible exact Nat.le_refl _) | omega | (simp only [World.size_alloc, World.size_setCell, World.size_drew, Wov_size, World.heap_drewN]; omega)))) (hb1.mono (by omega))
       have y0 : w1.cell? ⟨w.heap.size, 0, none⟩ = some (.int .i64 n) := (hb1.cell (by show w.heap.size < _; omega)).trans (by simp [go_sem])
       have y1 : w1.cell? ⟨w.heap.size, 1, none⟩ = some (.slice (some ⟨B, off, none⟩) N cap) := (hb1.cell (by show w.heap.size < _; omega)).trans (by simp [go_sem])
       have y2 : w1.cell? ⟨w.heap.size + 1, 0, none⟩ = some (.bool false) := (hb1.cell (by show w.heap.size + 1 < _; omega)).trans (by simp [go_sem])
       have y3 : w1.cell? ⟨w.heap.size + 2, 0, none⟩ = some (.int .i64 0) := (hb1.cell (by show w.heap.size + 2 < _; omega)).trans (by simp [go_sem])
       have y4 : w1.frozen? ⟨w.heap.size + 1, 0, none⟩ = false := (hb1.frozen (by show w.heap.size + 1 < _; omega)).trans (by simp [go_sem])
       have y5 : w1.frozen? ⟨w.heap.size + 2, 0, none⟩ = false := (hb1.frozen (by show w.heap.size + 2 < _; omega)).trans (by simp [go_sem])
       have y6 : w.heap.size + 3 ≤ w1.heap.size := Nat.le_trans (by omega) (Nat.le_of_lt hz2)
       have y7 : w.heap.size < w1.heap.size := by omega
       have y8 : w.heap.size + 1 < w1.heap.size := by omega
       have y9 : w.heap.size + 2 < w1.heap.size := by omega
       have hbw2 := Lib.hid hbw
       have HR3 := Lib.hid hz3
       clear hb1 hz3 hbw)
    | (refine ⟨trivial, ?_⟩; gi_at_call 86; refine (callsIn_wide.2 (pairs_any _ _)).mono ?_; rintro e w' ⟨rfl, rfl⟩))
  refine wpIn_world (fun W => W.heap.size = w1.heap.size + 4 ∧ Below w1.heap.size w1 W ∧ W.cell? ⟨w1.heap.size, 0, none⟩ = some (.slice (some ⟨Z, 0, none⟩) n zc) ∧ W.cell? ⟨w1.heap.size + 1, 0, none⟩ = some (.int .i64 n) ∧ W.cell? ⟨w1.heap.size + 1, 1, none⟩ = some (.slice (some ⟨B, off, none⟩) N cap)
    ∧ W.cell? ⟨w1.heap.size + 2, 0, none⟩ = some (.pointer (some ⟨w1.heap.size + 1, 0, none⟩)) ∧ W.cell? ⟨w1.heap.size + 3, 0, none⟩ = some (.int .i64 n)) ⟨by simp, by (repeat' (first | (with_reducible assumption) | (with_reducible exact Below.refl _ _) | (with_reducible refine below_wov ?_ ?_ _) | (with_reducible refine below_drewN ?_ _) | (with_reducible refine Below.drew ?_) | (with_reducible refine Below.alloc ?_ ?_ _) | (with_reducible refine Below.setCell ?_ ?_ _) | (with_reducible exact Nat.le_refl _) | omega | (simp only [World.size_alloc, World.size_setCell, World.size_drew, Wov_size, World.heap_drewN]; omega))), by simp [go_sem], by simp [go_sem], by simp [go_sem], by simp [go_sem], by simp [go_sem]⟩ ?_
  rintro w3 ⟨hz, hb3, c0, c1, c2, c3, c4⟩
  have x2 : w3.cell? ⟨w.heap.size + 1, 0, none⟩ = some (.bool false) := (hb3.cell (by show w.heap.size + 1 < _; omega)).trans y2
  have x3 : w3.cell? ⟨w.heap.size + 2, 0, none⟩ = some (.int .i64 0) := (hb3.cell (by show w.heap.size + 2 < _; omega)).trans y3
  have x4 : w3.frozen? ⟨w.heap.size + 1, 0, none⟩ = false := (hb3.frozen (by show w.heap.size + 1 < _; omega)).trans y4
  have x5 : w3.frozen? ⟨w.heap.size + 2, 0, none⟩ = false := (hb3.frozen (by show w.heap.size + 2 < _; omega)).trans y5
  have HW3 := Lib.hid (hbw2.out.trans (hb3.mono (by omega)))
  have HT3 := Lib.hid (HR3.out.below hb3 hz2)
  have HF3 : Hid (∀ x, x < N → w3.cell? ⟨B, off + x, none⟩ = some (.int .i64 (f x))) := fun x hx => (HW3.out.cell (p := ⟨B, off + x, none⟩) hB).trans (hCf.out x hx)
  clear y0 y1 y2 y3 y4 y5 hb3
  apply wpIn_pairs hn0 hn (Bx := w1.heap.size + 3) rfl rfl (by omega) c4 (fun pre W => Below w3.heap.size w3 W ∧ pre.all (keptP f T) = true)
    (fun c _ W => c = .ret ∧ keptAll n f T = false ∧ Below w.heap.size w W ∧ w3.heap.size ≤ W.heap.size ∧ W.cell? ⟨w.heap.size + 1, 0, none⟩ = some (.bool false) ∧ W.cell? ⟨w.heap.size + 2, 0, none⟩ = some (.int .i64 0)) ?own ?ownx ⟨Below.refl _ _, rfl⟩
  case own =>
    exact fun s A B row hs hg hr => ⟨hs.1.trans ⟨hg.os, hg.tape, hg.output, by have := hg.size; have := hs.1.size; omega, fun k hk => hg.block k (Nat.lt_of_lt_of_le hk hs.1.size) (fun e => by have := (hr k e.symm).1; omega)⟩, hs.2⟩
  case ownx =>
    exact fun c s A B row hs hg hr => ⟨hs.1, hs.2.1, hs.2.2.1.trans ⟨hg.os, hg.tape, hg.output, by have := hg.size; have := hs.2.2.1.size; omega, fun k hk => hg.block k (Nat.lt_of_lt_of_le hk hs.2.2.1.size) (fun e => by have := (hr k e.symm).1; omega)⟩, Nat.le_trans hs.2.2.2.1 hg.size, cell_kept hs.2.2.2.2.1 hg (fun r e => (hr r e).2), cell_kept hs.2.2.2.2.2 hg (fun r e => (hr r e).2)⟩
  case hassign =>
    intro l x W K hK
    simp only [pairE]
    gi_wp2
    exact hK
  case hbody =>
    rintro l pre ⟨⟨i, j⟩, hi, hj⟩ W ⟨hc2, hall⟩ hlt
    have hs := hc2.size
    have e0 : W.cell? ⟨w1.heap.size, 0, none⟩ = some (.slice (some ⟨Z, 0, none⟩) n zc) := (hc2.cell (by show w1.heap.size < _; omega)).trans c0
    have e1 : W.cell? ⟨w1.heap.size + 1, 0, none⟩ = some (.int .i64 n) := (hc2.cell (by show w1.heap.size + 1 < _; omega)).trans c1
    have e2 : W.cell? ⟨w1.heap.size + 1, 1, none⟩ = some (.slice (some ⟨B, off, none⟩) N cap) := (hc2.cell (by show w1.heap.size + 1 < _; omega)).trans c2
    have e3 : W.cell? ⟨w1.heap.size + 2, 0, none⟩ = some (.pointer (some ⟨w1.heap.size + 1, 0, none⟩)) := (hc2.cell (by show w1.heap.size + 2 < _; omega)).trans c3
    have e4 : W.cell? ⟨w1.heap.size + 3, 0, none⟩ = some (.int .i64 n) := (hc2.cell (by show w1.heap.size + 3 < _; omega)).trans c4
    have f2 : W.cell? ⟨w.heap.size + 1, 0, none⟩ = some (.bool false) := (hc2.cell (by show w.heap.size + 1 < _; omega)).trans x2
    have f3 : W.cell? ⟨w.heap.size + 2, 0, none⟩ = some (.int .i64 0) := (hc2.cell (by show w.heap.size + 2 < _; omega)).trans x3
    have f4 : W.frozen? ⟨w.heap.size + 1, 0, none⟩ = false := (hc2.frozen (by show w.heap.size + 1 < _; omega)).trans x4
    have f5 : W.frozen? ⟨w.heap.size + 2, 0, none⟩ = false := (hc2.frozen (by show w.heap.size + 2 < _; omega)).trans x5
    have ti := HT3.out.below hc2 (by omega) i (by omega)
    have tj := HT3.out.below hc2 (by omega) j (by omega)
    have hij : i * n + j < N := by rw [HN.out]; exact place_lt hi hj
    have cf : W.cell? ⟨B, off + (i * n + j), none⟩ = some (.int .i64 (f (i * n + j))) := (hc2.cell (p := ⟨B, off + (i * n + j), none⟩) (by show B < _; omega)).trans (HF3.out _ hij)
    have z0 : w1.heap.size < W.heap.size := by omega
    have z1 : w1.heap.size + 1 < W.heap.size := by omega
    have z2 : w1.heap.size + 2 < W.heap.size := by omega
    have zZ : Z < W.heap.size := by omega
    have zB : B < W.heap.size := by omega
    have zr : w.heap.size + 1 < W.heap.size := by omega
    have zr2 : w.heap.size + 2 < W.heap.size := by omega
    have AT := Lib.hid (fun p => at_wovo (M := w1.heap.size + 1) (B := B) (off := off) (N := N) (cap := cap) (W := W) hn (by omega) z1 e1 e2 i j (by omega) (by omega) hij p)
    have KP := Lib.hid (ratKeeps_any (tm T i).1 (tm T i).2 (tm T j).1 (tm T j).2 (f (i * n + j)) (OKR.out i hi).2 (OKR.out j hj).2 (OKF.out.1 _ hij))
    rw [show keepsPR (tm T i).1 (tm T i).2 (tm T j).1 (tm T j).2 (f (i * n + j)) = (keptP f T (⟨(i, j), hi, hj⟩ : PairC n), 0) from by unfold keepsPR keptP; rw [(OKR.out i hi).1, (OKR.out j hj).1, OKF.out.2 i j hi hj]; rfl] at KP
    simp only [bpair] at KP
    have HC2 := Lib.hid hc2
    have HALL := Lib.hid hall
    have hmem : Hid ((⟨(i, j), hi, hj⟩ : PairC n) ∈ pairsAll n) := by
      obtain ⟨x, hx, he⟩ := pairsUpto_mem (n * n) (Nat.le_refl _) i j hj (place_lt hi hj)
      have : x = ⟨(i, j), hi, hj⟩ := Subtype.ext he
      rw [← this]; exact hx
    clear x2 x3 x4 x5 c0 c1 c2 c3 c4 hc2 hall
    cases hk : keptP f T (⟨(i, j), hi, hj⟩ : PairC n)
    · rw [hk] at KP
      have HK := Lib.hid hk
      clear hk
      gi_wp2
      refine wpIn_region_wov (by kernel_rfl) (by kernel_rfl) (by kernel_rfl) ?_
      repeat (go_big_quiet_step (first | (go_at_call 88; exact AT.out _) | (go_at_call 87; exact KP.out.at _ _)))
      refine wpQuiet_nil ?_
      rintro _ ⟨pq, rfl⟩
      have hbw : Below W.heap.size W (Wov W pq) := by (repeat' (first | (with_reducible assumption) | (with_reducible exact Below.refl _ _) | (with_reducible refine below_wov ?_ ?_ _) | (with_reducible refine below_drewN ?_ _) | (with_reducible refine Below.drew ?_) | (with_reducible refine Below.alloc ?_ ?_ _) | (with_reducible refine Below.setCell ?_ ?_ _) | (with_reducible exact Nat.le_refl _) | omega | (simp only [World.size_alloc, World.size_setCell, World.size_drew, Wov_size, World.heap_drewN]; omega)))
      have v2 : (Wov W pq).cell? ⟨w.heap.size + 1, 0, none⟩ = some (.bool false) := (hbw.cell (p := ⟨w.heap.size + 1, 0, none⟩) zr).trans f2
      have v3 : (Wov W pq).cell? ⟨w.heap.size + 2, 0, none⟩ = some (.int .i64 0) := (hbw.cell (p := ⟨w.heap.size + 2, 0, none⟩) zr2).trans f3
      have v4 : (Wov W pq).frozen? ⟨w.heap.size + 1, 0, none⟩ = false := (hbw.frozen (p := ⟨w.heap.size + 1, 0, none⟩) zr).trans f4
      have v5 : (Wov W pq).frozen? ⟨w.heap.size + 2, 0, none⟩ = false := (hbw.frozen (p := ⟨w.heap.size + 2, 0, none⟩) zr2).trans f5
      have HBW := Lib.hid hbw
      clear hbw
      gi_wp2
      refine ⟨((keepsOthers_wov W pq).trans (KeepsOthers.setCell _ _ _)).trans (KeepsOthers.setCell _ _ _), rfl, ?_, ?_, ?_, ?_, ?_⟩
      · unfold keptAll
        rw [List.all_eq_false]
        exact ⟨_, hmem.out, by rw [show keptB _ _ _ _ _ = keptP f T (⟨(i, j), hi, hj⟩ : PairC n) from rfl, HK.out]; simp⟩
      · exact (((HW3.out.trans (HC2.out.mono (by omega))).trans (HBW.out.mono (by omega))).setCell (p := ⟨w.heap.size + 1, 0, none⟩) (Nat.le_add_right _ _) _).setCell (p := ⟨w.heap.size + 2, 0, none⟩) (Nat.le_add_right _ _) _
      · simp only [World.size_setCell, Wov_size]; omega
      · rw [World.cell?_setCell_other _ _ _ _ (by simp), setCell_cell_self, v2]; rfl
      · rw [setCell_cell_self, World.cell?_setCell_other _ _ _ _ (by simp), v3]; rfl
    · rw [hk] at KP
      have HK := Lib.hid hk
      clear hk
      gi_wp2
      refine wpIn_region_wov (by kernel_rfl) (by kernel_rfl) (by kernel_rfl) ?_
      repeat (go_big_quiet_step (first | (go_at_call 88; exact AT.out _) | (go_at_call 87; exact KP.out.at _ _)))
      refine wpQuiet_nil ?_
      rintro _ ⟨pq, rfl⟩
      have hbw : Below W.heap.size W (Wov W pq) := by (repeat' (first | (with_reducible assumption) | (with_reducible exact Below.refl _ _) | (with_reducible refine below_wov ?_ ?_ _) | (with_reducible refine below_drewN ?_ _) | (with_reducible refine Below.drew ?_) | (with_reducible refine Below.alloc ?_ ?_ _) | (with_reducible refine Below.setCell ?_ ?_ _) | (with_reducible exact Nat.le_refl _) | omega | (simp only [World.size_alloc, World.size_setCell, World.size_drew, Wov_size, World.heap_drewN]; omega)))
      have HBW := Lib.hid hbw
      clear hbw
      gi_wp2
      refine ⟨keepsOthers_wov W pq, fun _ => (HBW.out.cell (p := ⟨w1.heap.size + 3, 0, none⟩) (by show w1.heap.size + 3 < _; omega)).trans e4, HC2.out.trans (HBW.out.mono hs), ?_⟩
      rw [List.all_append, HALL.out]
      simp [HK.out]
  case hdone =>
    rintro D0 W hD0 ⟨hc2, hall⟩ hK
    have hs := hc2.size
    have f2 : W.cell? ⟨w.heap.size + 1, 0, none⟩ = some (.bool false) := (hc2.cell (by show w.heap.size + 1 < _; omega)).trans x2
    have f3 : W.cell? ⟨w.heap.size + 2, 0, none⟩ = some (.int .i64 0) := (hc2.cell (by show w.heap.size + 2 < _; omega)).trans x3
    have f4 : W.frozen? ⟨w.heap.size + 1, 0, none⟩ = false := (hc2.frozen (by show w.heap.size + 1 < _; omega)).trans x4
    have f5 : W.frozen? ⟨w.heap.size + 2, 0, none⟩ = false := (hc2.frozen (by show w.heap.size + 2 < _; omega)).trans x5
    have HBW := Lib.hid (HW3.out.trans (hc2.mono (by omega)))
    have HALL := Lib.hid hall
    clear hc2 hall x2 x3 x4 x5 c0 c1 c2 c3 c4
    gi_wp2
    have q0 : ((W.setCell ⟨w.heap.size + 1, 0, none⟩ (.bool true)).setCell ⟨w.heap.size + 2, 0, none⟩ (.int .i64 0)).heap[D0]? = some (.deferred (some [])) :=
      ((KeepsOthers.setCell W ⟨w.heap.size + 1, 0, none⟩ (.bool true)).trans (KeepsOthers.setCell _ ⟨w.heap.size + 2, 0, none⟩ (.int .i64 0))).same D0 _ hK rfl
    refine ⟨by simp, .inl ⟨_, _, rfl, run_takeDeferred q0, ?_⟩⟩
    have n0 : ((W.setCell ⟨w.heap.size + 1, 0, none⟩ (.bool true)).setCell ⟨w.heap.size + 2, 0, none⟩ (.int .i64 0)).cell? ⟨w.heap.size + 1, 0, none⟩ = some (.bool true) := by
      rw [World.cell?_setCell_other _ _ _ _ (by simp), setCell_cell_self, f2]; rfl
    have n1 : ((W.setCell ⟨w.heap.size + 1, 0, none⟩ (.bool true)).setCell ⟨w.heap.size + 2, 0, none⟩ (.int .i64 0)).cell? ⟨w.heap.size + 2, 0, none⟩ = some (.int .i64 0) := by
      rw [setCell_cell_self, World.cell?_setCell_other _ _ _ _ (by simp), f3]; rfl
    have k0 := cell_kept n0 (grownBy_putObj' _ D0 (.deferred none)) (fun r e => by cases e; exact ⟨_, q0, rfl⟩)
    have k1 := cell_kept n1 (grownBy_putObj' _ D0 (.deferred none)) (fun r e => by cases e; exact ⟨_, q0, rfl⟩)
    refine ⟨.tuple #[.bool true, .int .i64 0], ?_, ?_⟩
    · simp [results, Tryz.results42, Tryz.f42, go_sem, k0, k1]
    · rw [R.out, show keptAll n f T = true from HALL.out]
      exact gives_end rfl (((HBW.out.setCell (p := ⟨w.heap.size + 1, 0, none⟩) (Nat.le_add_right _ _) _).setCell (p := ⟨w.heap.size + 2, 0, none⟩) (Nat.le_add_right _ _) _).grown (grownBy_putObj' _ D0 _) (by simp only [World.size_setCell]; omega) (fun k e => by cases e; omega))
  case hstop =>
    rintro D0 c pre W hD0 ⟨rfl, hka, hb, hs, f2, f3⟩ hK
    gi_wp2
    refine ⟨by simp, .inl ⟨_, _, rfl, run_takeDeferred hK, ?_⟩⟩
    have k0 := cell_kept f2 (grownBy_putObj' _ D0 (.deferred none)) (fun r e => by cases e; exact ⟨_, hK, rfl⟩)
    have k1 := cell_kept f3 (grownBy_putObj' _ D0 (.deferred none)) (fun r e => by cases e; exact ⟨_, hK, rfl⟩)
    refine ⟨.tuple #[.bool false, .int .i64 0], ?_, ?_⟩
    · simp [results, Tryz.results42, Tryz.f42, go_sem, k0, k1]
    · rw [R.out, hka]
      exact gives_end rfl (hb.grown (grownBy_putObj' _ D0 _) (by omega) (fun k e => by cases e; omega))

theorem keeps_bad (n : Int) (N : Nat) (p : Option Addr) (cap : Nat) (f : Nat → Int) (q : Option Addr) (M cq : Nat) (T : Nat → Int × Int) (w : World) (hn : fits64 n) (hS : SlP w p N f) (hF : Fits N f) (hN2 : N ≤ 9223372036854775807) (hok : okD n N f = false) :
    Calls Tryz.prog 42 #[.agg #[.int .i64 n, .slice p N cap], .slice q M cq] w (Gives w (.tuple #[.bool false, .int .i64 8])) := by
  have CK : Hid (∀ w', Below w.heap.size w w' → Calls Tryz.prog 83 #[.agg #[.int .i64 n, .slice p N cap]] w' (Gives w' (.int .i64 8))) := fun w' hb => by
    have := dbmCheck_any n p N cap f w' hn (hS.below hb) hF hN2
    rwa [hok] at this
  clear hS hF hok
  go_enter Tryz.func42, Tryz.ntmps42
  go_wp2_with (first
    | (go_at_call 83; refine (CK.out _ (by (repeat' (first | (with_reducible assumption) | (with_reducible exact Below.refl _ _) | (with_reducible refine below_wov ?_ ?_ _) | (with_reducible refine below_drewN ?_ _) | (with_reducible refine Below.drew ?_) | (with_reducible refine Below.alloc ?_ ?_ _) | (with_reducible refine Below.setCell ?_ ?_ _) | (with_reducible exact Nat.le_refl _) | omega | (simp only [World.size_alloc, World.size_setCell, World.size_drew, Wov_size, World.heap_drewN]; omega))))).mono ?_; rintro e w' ⟨rfl, p1, rfl⟩)
    | fail)
  first
  | (go_returns; done)
  | (go_returns; exact gives_end rfl (by (repeat' (first | (with_reducible assumption) | (with_reducible exact Below.refl _ _) | (with_reducible refine below_wov ?_ ?_ _) | (with_reducible refine below_drewN ?_ _) | (with_reducible refine Below.drew ?_) | (with_reducible refine Below.alloc ?_ ?_ _) | (with_reducible refine Below.setCell ?_ ?_ _) | (with_reducible exact Nat.le_refl _) | omega | (simp only [World.size_alloc, World.size_setCell, World.size_drew, Wov_size, World.heap_drewN]; omega)))))

theorem keeps_bad2 (n : Int) (N : Nat) (p : Option Addr) (cap : Nat) (f : Nat → Int) (q : Option Addr) (M cq : Nat) (T : Nat → Int × Int) (w : World) (hn : fits64 n) (hS : SlP w p N f) (hF : Fits N f) (hN2 : N ≤ 9223372036854775807) (hok : okD n N f = true) (hR : SlR w q M T) (hFR : FitsR M T) (hM2 : M ≤ 4611686018427387903) (har : allRat M T = false) :
    Calls Tryz.prog 42 #[.agg #[.int .i64 n, .slice p N cap], .slice q M cq] w (Gives w (.tuple #[.bool false, .int .i64 8])) := by
  have CK : Hid (∀ w', Below w.heap.size w w' → Calls Tryz.prog 83 #[.agg #[.int .i64 n, .slice p N cap]] w' (Gives w' (.int .i64 0))) := fun w' hb => by
    have := dbmCheck_any n p N cap f w' hn (hS.below hb) hF hN2
    rwa [hok] at this
  have CR : Hid (∀ w', Below w.heap.size w w' → Calls Tryz.prog 84 #[.slice q M cq, .func (.func 85) #[] #[]] w' (Gives w' (.bool true))) := fun w' hb => by
    have := containsR_any q M cq T w' (hR.below hb) hFR hM2
    rwa [har] at this
  clear hR hFR har
  clear hS hF hok
  go_enter Tryz.func42, Tryz.ntmps42
  go_wp2_with (first
    | (go_at_call 83; refine (CK.out _ (by (repeat' (first | (with_reducible assumption) | (with_reducible exact Below.refl _ _) | (with_reducible refine below_wov ?_ ?_ _) | (with_reducible refine below_drewN ?_ _) | (with_reducible refine Below.drew ?_) | (with_reducible refine Below.alloc ?_ ?_ _) | (with_reducible refine Below.setCell ?_ ?_ _) | (with_reducible exact Nat.le_refl _) | omega | (simp only [World.size_alloc, World.size_setCell, World.size_drew, Wov_size, World.heap_drewN]; omega))))).mono ?_; rintro e w' ⟨rfl, p1, rfl⟩)
    | (go_at_call 84; refine (CR.out _ (by (repeat' (first | (with_reducible assumption) | (with_reducible exact Below.refl _ _) | (with_reducible refine below_wov ?_ ?_ _) | (with_reducible refine below_drewN ?_ _) | (with_reducible refine Below.drew ?_) | (with_reducible refine Below.alloc ?_ ?_ _) | (with_reducible refine Below.setCell ?_ ?_ _) | (with_reducible exact Nat.le_refl _) | omega | (simp only [World.size_alloc, World.size_setCell, World.size_drew, Wov_size, World.heap_drewN]; omega))))).mono ?_; rintro e w' ⟨rfl, p2, rfl⟩))
  first
  | (go_returns; done)
  | (go_returns; exact gives_end rfl (by (repeat' (first | (with_reducible assumption) | (with_reducible exact Below.refl _ _) | (with_reducible refine below_wov ?_ ?_ _) | (with_reducible refine below_drewN ?_ _) | (with_reducible refine Below.drew ?_) | (with_reducible refine Below.alloc ?_ ?_ _) | (with_reducible refine Below.setCell ?_ ?_ _) | (with_reducible exact Nat.le_refl _) | omega | (simp only [World.size_alloc, World.size_setCell, World.size_drew, Wov_size, World.heap_drewN]; omega)))))

theorem keeps_dim (n : Int) (N : Nat) (p : Option Addr) (cap : Nat) (f : Nat → Int) (q : Option Addr) (M cq : Nat) (T : Nat → Int × Int) (w : World) (hn : fits64 n) (hS : SlP w p N f) (hF : Fits N f) (hN2 : N ≤ 9223372036854775807) (hok : okD n N f = true) (hR : SlR w q M T) (hFR : FitsR M T) (hM2 : M ≤ 4611686018427387903) (har : allRat M T = true) (hM : (M : Int) ≠ n - 1) :
    Calls Tryz.prog 42 #[.agg #[.int .i64 n, .slice p N cap], .slice q M cq] w (Gives w (.tuple #[.bool false, .int .i64 40])) := by
  have CK : Hid (∀ w', Below w.heap.size w w' → Calls Tryz.prog 83 #[.agg #[.int .i64 n, .slice p N cap]] w' (Gives w' (.int .i64 0))) := fun w' hb => by
    have := dbmCheck_any n p N cap f w' hn (hS.below hb) hF hN2
    rwa [hok] at this
  have CR : Hid (∀ w', Below w.heap.size w w' → Calls Tryz.prog 84 #[.slice q M cq, .func (.func 85) #[] #[]] w' (Gives w' (.bool false))) := fun w' hb => by
    have := containsR_any q M cq T w' (hR.below hb) hFR hM2
    rwa [har] at this
  clear hR hFR har
  have hMn : ((M : Int) != n - 1) = true := by rw [bne_iff_ne]; exact hM
  obtain ⟨h1, h2⟩ : 1 ≤ n ∧ n ≤ 4 := by
    obtain ⟨m, rfl, _, _, _⟩ := okD_form hok
    omega
  clear hS hF hok
  go_enter Tryz.func42, Tryz.ntmps42
  go_wp2_with (first
    | (go_at_call 83; refine (CK.out _ (by (repeat' (first | (with_reducible assumption) | (with_reducible exact Below.refl _ _) | (with_reducible refine below_wov ?_ ?_ _) | (with_reducible refine below_drewN ?_ _) | (with_reducible refine Below.drew ?_) | (with_reducible refine Below.alloc ?_ ?_ _) | (with_reducible refine Below.setCell ?_ ?_ _) | (with_reducible exact Nat.le_refl _) | omega | (simp only [World.size_alloc, World.size_setCell, World.size_drew, Wov_size, World.heap_drewN]; omega))))).mono ?_; rintro e w' ⟨rfl, p1, rfl⟩)
    | (go_at_call 84; refine (CR.out _ (by (repeat' (first | (with_reducible assumption) | (with_reducible exact Below.refl _ _) | (with_reducible refine below_wov ?_ ?_ _) | (with_reducible refine below_drewN ?_ _) | (with_reducible refine Below.drew ?_) | (with_reducible refine Below.alloc ?_ ?_ _) | (with_reducible refine Below.setCell ?_ ?_ _) | (with_reducible exact Nat.le_refl _) | omega | (simp only [World.size_alloc, World.size_setCell, World.size_drew, Wov_size, World.heap_drewN]; omega))))).mono ?_; rintro e w' ⟨rfl, p2, rfl⟩))
  first
  | (go_returns; done)
  | (go_returns; exact gives_end rfl (by (repeat' (first | (with_reducible assumption) | (with_reducible exact Below.refl _ _) | (with_reducible refine below_wov ?_ ?_ _) | (with_reducible refine below_drewN ?_ _) | (with_reducible refine Below.drew ?_) | (with_reducible refine Below.alloc ?_ ?_ _) | (with_reducible refine Below.setCell ?_ ?_ _) | (with_reducible exact Nat.le_refl _) | omega | (simp only [World.size_alloc, World.size_setCell, World.size_drew, Wov_size, World.heap_drewN]; omega)))))

/-- THE CONTRACT of Keeps. -/
theorem keepsD_any (n : Int) (N : Nat) (p : Option Addr) (cap : Nat) (f : Nat → Int) (q : Option Addr) (M cq : Nat) (T : Nat → Int × Int) (w : World) (hn : fits64 n) (hS : SlP w p N f) (hF : Fits N f) (hN2 : N ≤ 9223372036854775807) (hR : SlR w q M T) (hFR : FitsR M T) (hM2 : M ≤ 4611686018427387903) :
    Calls Tryz.prog 42 #[.agg #[.int .i64 n, .slice p N cap], .slice q M cq] w (Gives w (bpair (keepsD n N f M T))) := by
  cases hok : okD n N f
  · have : keepsD n N f M T = (false, 8) := by unfold keepsD; rw [hok]; rfl
    rw [this]
    exact keeps_bad n N p cap f q M cq T w hn hS hF hN2 hok
  · cases har : allRat M T
    · have : keepsD n N f M T = (false, 8) := by unfold keepsD; rw [hok, har]; rfl
      rw [this]
      exact keeps_bad2 n N p cap f q M cq T w hn hS hF hN2 hok hR hFR hM2 har
    · by_cases hM : (M : Int) = n - 1
      · obtain ⟨m, rfl, hNm, h1, h2⟩ := okD_form hok
        exact callsIn_wide.1 (keeps_in m N p cap f q M cq T w hNm (by omega) h2 hS hF hok hR hFR har)
      · have : keepsD n N f M T = (false, 40) := by unfold keepsD; rw [hok, har]; simp [hM]
        rw [this]
        exact keeps_dim n N p cap f q M cq T w hn hS hF hN2 hok hR hFR hM2 har hM
#print axioms keepsD_any
end Go.Proofs.YtpmpapenjcemjaaGreatDoor

namespace Go.Proofs.YtpmpapenjcemjaaGreatDoor
set_option linter.unusedSimpArgs false
set_option linter.unusedVariables false

/-- The least bound that a difference A / E keeps. -/
def leastB (A E : Int) : Int := 2 * (A / E) + (if A % E = 0 then 1 else 2)
theorem kept_core {A E x : Int} (hE : 0 < E) : (A < x / 2 * E ∨ (A = x / 2 * E ∧ ¬ x % 2 = 0)) ↔ leastB A E ≤ x := by
  have h1 := Int.emod_nonneg A (show E ≠ 0 by omega)
  have h2 := Int.emod_lt_of_pos A hE
  have h3 := Int.mul_ediv_add_emod A E
  obtain ⟨f, hf⟩ : ∃ f, f = A / E := ⟨_, rfl⟩
  obtain ⟨r, hr⟩ : ∃ r, r = A % E := ⟨_, rfl⟩
  obtain ⟨c, hc⟩ : ∃ c, c = x / 2 := ⟨_, rfl⟩
  unfold leastB
  rw [← hf, ← hr] at h3
  rw [← hr] at h1 h2
  rw [← hf, ← hr]
  clear hf hr
  rw [← hc]
  rcases Int.lt_trichotomy f c with h | h | h
  · have : E * f + E ≤ c * E := by
      have := Int.mul_le_mul_of_nonneg_right (show f + 1 ≤ c by omega) (show (0 : Int) ≤ E by omega)
      rw [Int.add_mul, Int.one_mul, Int.mul_comm f E] at this; exact this
    constructor
    · intro _; split <;> omega
    · intro _; exact .inl (by omega)
  · subst h
    have e : f * E = E * f := Int.mul_comm _ _
    rw [e]
    constructor
    · rintro (h | ⟨h, g⟩)
      · omega
      · rw [if_pos (by omega)]; omega
    · intro h
      right
      split at h <;> omega
  · have : c * E + E ≤ E * f := by
      have := Int.mul_le_mul_of_nonneg_right (show c + 1 ≤ f by omega) (show (0 : Int) ≤ E by omega)
      rw [Int.add_mul, Int.one_mul, Int.mul_comm f E] at this; exact this
    constructor
    · rintro (h | ⟨h, _⟩) <;> omega
    · intro h; exfalso; split at h <;> omega

theorem keptB_iff {n1 d1 n2 d2 x : Int} (h1 : 0 < d1) (h2 : 0 < d2) : keptB n1 d1 n2 d2 x = true ↔ ele (some (leastB (n1 * d2 - n2 * d1) (d1 * d2))) (eb x) := by
  unfold keptB eb
  by_cases hx : x = noneB
  · rw [if_pos hx]; simp [hx, ele]
  · rw [if_neg hx, decide_eq_false hx, Bool.false_or, ele_some, ← kept_core (Int.mul_pos h1 h2)]
    simp only [bstr, Bool.or_eq_true, Bool.and_eq_true, decide_eq_true_eq, Bool.not_eq_true', decide_eq_false_iff_not]
    exact Iff.rfl

/-- Sums of kept bounds are kept. -/
theorem least_add {a p b q c r : Int} (hp : 0 < p) (hq : 0 < q) (hr : 0 < r) :
    ele (some (leastB (a * r - c * p) (p * r))) (eadd (some (leastB (a * q - b * p) (p * q))) (some (leastB (b * r - c * q) (q * r)))) := by
  obtain ⟨x, hx⟩ : ∃ x, x = leastB (a * q - b * p) (p * q) := ⟨_, rfl⟩
  obtain ⟨y, hy⟩ : ∃ y, y = leastB (b * r - c * q) (q * r) := ⟨_, rfl⟩
  rw [← hx, ← hy]
  have kx := (kept_core (x := x) (A := a * q - b * p) (Int.mul_pos hp hq)).2 (by omega)
  have ky := (kept_core (x := y) (A := b * r - c * q) (Int.mul_pos hq hr)).2 (by omega)
  show leastB _ _ ≤ _
  rw [← kept_core (Int.mul_pos hp hr)]
  obtain ⟨u, hu⟩ : ∃ u, u = x / 2 := ⟨_, rfl⟩
  obtain ⟨v, hv⟩ : ∃ v, v = y / 2 := ⟨_, rfl⟩
  have hs : (2 * (x / 2 + y / 2) + (if x % 2 = 0 ∨ y % 2 = 0 then 0 else 1)) / 2 = u + v := by rw [← hu, ← hv]; split <;> omega
  rw [hs]
  rw [← hu] at kx
  rw [← hv] at ky
  have ex : (a * q - b * p < u * (p * q) ↔ (a * q - b * p) * r < u * (p * q) * r) := ⟨fun h => Int.mul_lt_mul_of_pos_right h hr, fun h => Int.lt_of_mul_lt_mul_right h (by omega)⟩
  have ey : (b * r - c * q < v * (q * r) ↔ (b * r - c * q) * p < v * (q * r) * p) := ⟨fun h => Int.mul_lt_mul_of_pos_right h hp, fun h => Int.lt_of_mul_lt_mul_right h (by omega)⟩
  have ez : (a * r - c * p < (u + v) * (p * r) ↔ (a * r - c * p) * q < (u + v) * (p * r) * q) := ⟨fun h => Int.mul_lt_mul_of_pos_right h hq, fun h => Int.lt_of_mul_lt_mul_right h (by omega)⟩
  have fx : (a * q - b * p = u * (p * q) → (a * q - b * p) * r = u * (p * q) * r) := fun h => by rw [h]
  have fy : (b * r - c * q = v * (q * r) → (b * r - c * q) * p = v * (q * r) * p) := fun h => by rw [h]
  have fz : ((a * r - c * p) * q = (u + v) * (p * r) * q → a * r - c * p = (u + v) * (p * r)) := fun h => Int.eq_of_mul_eq_mul_right (by omega) h
  have g1 : (a * q - b * p) * r = a * q * r - b * p * r := Int.sub_mul _ _ _
  have g2 : (b * r - c * q) * p = b * p * r - c * p * q := by rw [Int.sub_mul, Int.mul_right_comm b r p, Int.mul_right_comm c q p]
  have g3 : (a * r - c * p) * q = a * q * r - c * p * q := by rw [Int.sub_mul, Int.mul_right_comm a r q]
  have g4 : u * (p * q) * r = u * (p * q * r) := Int.mul_assoc _ _ _
  have g5 : v * (q * r) * p = v * (p * q * r) := by rw [Int.mul_assoc, Int.mul_comm (q * r) p, ← Int.mul_assoc p q r]
  have g6 : (u + v) * (p * r) * q = u * (p * q * r) + v * (p * q * r) := by rw [Int.mul_assoc, Int.mul_right_comm p r q, Int.add_mul]
  rw [g1, g4] at ex fx
  rw [g2, g5] at ey fy
  rw [g3, g6] at ez fz
  obtain ⟨X, hX⟩ : ∃ X, X = a * q * r := ⟨_, rfl⟩
  obtain ⟨Y, hY⟩ : ∃ Y, Y = b * p * r := ⟨_, rfl⟩
  obtain ⟨Z, hZ⟩ : ∃ Z, Z = c * p * q := ⟨_, rfl⟩
  obtain ⟨U, hU⟩ : ∃ U, U = u * (p * q * r) := ⟨_, rfl⟩
  obtain ⟨V, hV⟩ : ∃ V, V = v * (p * q * r) := ⟨_, rfl⟩
  rw [← hX, ← hY, ← hU] at ex fx
  rw [← hY, ← hZ, ← hV] at ey fy
  rw [← hX, ← hZ, ← hU, ← hV] at ez fz
  rcases kx with kx | ⟨kx, ox⟩
  · have := ex.1 kx
    rcases ky with ky | ⟨ky, oy⟩
    · have := ey.1 ky
      exact .inl (ez.2 (by omega))
    · have := fy ky
      exact .inl (ez.2 (by omega))
  · have := fx kx
    rcases ky with ky | ⟨ky, oy⟩
    · have := ey.1 ky
      exact .inl (ez.2 (by omega))
    · have := fy ky
      refine .inr ⟨fz (by omega), ?_⟩
      rw [if_neg (by omega)]; omega

/-- The matrix of the least bounds that times keep. -/
def tmE (T : Nat → Int × Int) : Nat → Nat → EB := fun i j => some (leastB ((tm T i).1 * (tm T j).2 - (tm T j).1 * (tm T i).2) ((tm T i).2 * (tm T j).2))
theorem tmE_closed {n : Nat} {T : Nat → Int × Int} (h : ∀ i, i < n → 0 < (tm T i).2) : Closed n (tmE T) := by
  refine ⟨fun i hi => ?_, fun i j k hi hj hk => least_add (h i hi) (h k hk) (h j hj)⟩
  unfold tmE leastB
  rw [Int.sub_self]; simp
theorem tm_pos {M : Nat} {T : Nat → Int × Int} (h : allRat M T = true) : ∀ i, i < M + 1 → 0 < (tm T i).2 := by
  intro i hi
  cases i with
  | zero => exact (by decide : (0 : Int) < 1)
  | succ i =>
    have := allRat_iff.1 h i (by omega)
    unfold okRat at this
    simp only [Bool.and_eq_true, decide_eq_true_eq] at this
    show 0 < (T i).2
    omega
theorem kept_under {n : Nat} {f : Nat → Int} {T : Nat → Int × Int} (h : ∀ i, i < n → 0 < (tm T i).2) : keptAll n f T = true ↔ Under n (tmE T) (mE n f) := by
  rw [keptAll_iff]
  exact ⟨fun g i j hi hj => (keptB_iff (h i hi) (h j hj)).1 (g i j hi hj), fun g i j hi hj => (keptB_iff (h i hi) (h j hj)).2 (g i j hi hj)⟩

theorem kept_none {n : Nat} {f : Nat → Int} {T : Nat → Int × Int} (h : ∀ i, i < n → 0 < (tm T i).2) (hn : n ≤ 4) (hb : ∀ i j, i < n → j < n → bd 288230376151711744 (f (i * n + j))) (hc : closeI n f = none) : keptAll n f T = false := by
  cases hk : keptAll n f T
  · rfl
  · obtain ⟨c, h1, _⟩ := closeE_greatest (tmE_closed h) ((kept_under h).1 hk)
    rw [close_none hn hb hc] at h1; cases h1
theorem kept_same {n : Nat} {f c : Nat → Int} {T : Nat → Int × Int} (h : ∀ i, i < n → 0 < (tm T i).2) (K : ClosedI n f c) : keptAll n f T = keptAll n c T := by
  rw [Bool.eq_iff_iff, kept_under h, kept_under h]
  constructor
  · intro hu
    obtain ⟨e, he, hce⟩ := K.ex
    obtain ⟨c', h1, h2⟩ := closeE_greatest (tmE_closed h) hu
    rw [he] at h1; cases h1
    intro i j hi hj
    show ele _ (eb (c (i * n + j)))
    rw [hce i j hi hj]; exact h2 i j hi hj
  · exact fun hu => under_trans hu K.closed.2
#print axioms kept_none
#print axioms kept_same
end Go.Proofs.YtpmpapenjcemjaaGreatDoor

namespace Go.Proofs.YtpmpapenjcemjaaGreatDoor
open Go.ChangeShapes Go.WideShapes Go.ChangeAt Go.RowKit Go.Joins Go.Deep
set_option linter.unusedVariables false
set_option linter.unusedSimpArgs false
set_option maxRecDepth 10000

/-- A slice of times that came in. -/
theorem open_rats {H : Type} {enc : TypeId × Value → H} {W : World} {base : Nat} {v : Value} {d : DataW H} {p : List MemPlace}
    (hv : Value.okWide Tryz.prog W .any base 98 v) (h : DataW.Trod enc Tryz.prog W 0 (fun _ => true) true 98 v d p) :
    ∃ (q : Option Addr) (M cq : Nat) (T : Nat → Int × Int), v = .slice q M cq ∧ SlR W q M T ∧ FitsR M T ∧ M ≤ maxLen := by
  obtain ⟨a0, l0, k0, rfl⟩ := okWide_slice Tryz.underlying98 hv
  obtain ⟨n, h⟩ := h
  rcases open_slice_pairs Tryz.underlying98 (e := 51) Tryz.underlying51 cellsRat (by kernel_rfl) (by kernel_rfl) (by kernel_rfl) (by kernel_rfl) h with ⟨h1, _⟩ | ⟨a, len, cap, m, n', V0, V1, D0, D1, P0, P1, h1, hb, hl, hm, hmm, _, hx⟩
  · have h1 : Value.slice a0 l0 k0 = .slice none 0 0 := by simpa [Value.cells] using h1
    exact ⟨none, 0, 0, fun _ => (0, 0), h1, .inl rfl, (fun x hx => by omega), by simp [maxLen]⟩
  · have h1 : Value.slice a0 l0 k0 = .slice (some a) len cap := by simpa [Value.cells] using h1
    simp only [if_true] at hmm
    subst hmm
    have hg : ∀ i, ∃ r : Int × Int, i < m → V0 i = .int .i64 r.1 ∧ V1 i = .int .i64 r.2 ∧ fits64 r.1 ∧ fits64 r.2 := by
      intro i
      by_cases hi : i < m
      · obtain ⟨_, _, t0, t1⟩ := hx i hi
        obtain ⟨x, e0, _, wx⟩ := DataW.trod_int Tryz.underlying3 t0
        obtain ⟨y, e1, _, wy⟩ := DataW.trod_int Tryz.underlying3 t1
        simp only [List.cons.injEq, and_true] at e0 e1
        exact ⟨(x, y), fun _ => ⟨e0, e1, fits_of_wf wx, fits_of_wf wy⟩⟩
      · exact ⟨(0, 0), fun h => absurd h hi⟩
    obtain ⟨T, hT⟩ := Classical.axiomOfChoice hg
    refine ⟨some a, len, m, T, h1, ?_, fun x hx => ⟨(hT x (by omega)).2.2.1, (hT x (by omega)).2.2.2⟩, by omega⟩
    by_cases h0 : len = 0
    · exact .inl h0
    · obtain ⟨B, off, spot⟩ := a
      have c00 := (hx 0 (by omega)).1
      have hspot : spot = none := by simpa [Addr.add] using World.cell?_spot c00
      subst hspot
      have hcc : ∀ x, x < len → W.cell? ⟨B, off + x * 2, none⟩ = some (.int .i64 (T x).1) ∧ W.cell? ⟨B, off + (x * 2 + 1), none⟩ = some (.int .i64 (T x).2) := fun x hxl => by
        obtain ⟨k0, k1, _, _⟩ := hx x (by omega)
        rw [add_plain] at k0 k1
        obtain ⟨e0, e1, _, _⟩ := hT x (by omega)
        exact ⟨by rw [k0, e0], by rw [k1, e1]⟩
      refine .inr ⟨B, off, rfl, World.block_lt_of_cell? W _ (hcc 0 (by omega)).1, hcc⟩
#print axioms open_rats
end Go.Proofs.YtpmpapenjcemjaaGreatDoor
