/- Loops over an iterator: a region that draws its order in a round; the iterator over pairs of clocks (package dbm). No condition but that the count of clocks is small. Contracts of package dbm: (*matrix).at, pairs, and the iterator that pairs hands back. No condition but that the count of clocks is at most 4. Worlds in which one block has turned; numbers held in a block; the contract of (*matrix).through. No condition but that the count of clocks is at most 4 and numbers are of their kind. Contract of (*matrix).through. No condition but that the count of clocks is at most 4 and numbers are of their kind. Contracts of bound.Value (as one), dbm.may, Check, Twin: no condition but that numbers are of their kind. Contracts of dbm.Check, slices.Clone, dbm.Twin: no condition but that numbers are of their kind. Contracts of dbm.Twin and the document's Twin: a copy in new memory. No condition but on the count of bounds. Contract of dbm.Close. No condition but on the count of bounds, and that numbers are of their kind. -/
import Derived.Test.YtpmpapenjcemjaaGreatDoorMA
import Derived.RangeFuncNested
import Derived.RangeFuncBound
import Derived.RangeFuncCalls
import Derived.RangeFuncLeaves
import Derived.Shelf.Abstract
import Derived.Shelf.RegionOpen
import Derived.OwnWalkIn
import Derived.TacticsInMore
import Derived.LoopNIn
import Derived.LoopIn
import Derived.Maps.AppendAt
import Derived.Test.YtpmpapenjcemjaaGreatDoorFrame2
import Derived.WalkSpells
import Derived.Deep.RegionHeld3
namespace Go.Proofs.YtpmpapenjcemjaaGreatDoor
set_option linter.unusedSimpArgs false
set_option linter.unusedVariables false
open Go Go.RowKit Go.Shelf

/-! ### A region that draws its order, in a round, its operations quiet as outside a round -/
def opDefers : Op → Bool
  | .defer _ => true
  | _ => false
theorem opDefers_no {o : Op} (h : opDefers o = false) : ∀ c, o ≠ .defer c := by
  intro c e; subst e; cases h

section
variable {P : Program} {ops : Array Oper} {C : World → Prop}
theorem round_wp_of_quiet {l n : Nat} {o : Oper} {a : Act} {K : Act → Prop} {K' : Act → World → Prop} {Q' : Exit → Act → World → Prop} {w : World} (hd : ∀ c, o.op ≠ .defer c) (hw : C w) (h : ∀ a w', C w' → K a → K' a w')
    (hh : o.quiet P a C K) : o.wpIn (Fence.wide.inRound l) n P a w K' Q' := by
  obtain ⟨v, h1, h2⟩ := hh
  have h3 := h1 w hw
  unfold Oper.quietAt at h3
  unfold Oper.wpIn
  refine ⟨fun _ _ => trivial, ?_⟩
  rw [Oper.semAt_eq _ _ _ hd]
  generalize (execOp a.eval o).run P w = r at *
  cases r with
  | ok x w' =>
    cases x <;> simp only [Oper.quietUpon] at h3 <;> simp only [Oper.uponIn]
    case value u =>
      obtain ⟨e1, e2⟩ := h3
      rw [e1, e2]
      exact h _ _ hw h2
    case skip =>
      obtain ⟨e1, e2⟩ := h3
      rw [e1, ← e2]
      exact h _ _ hw h2
    case enter f args =>
      obtain ⟨e1, hc⟩ := h3
      rw [e1]
      exact ⟨(fun hs => by cases hs), CallsIn.inRound l (callsIn_wide.2 (hc.mono fun e w'' ⟨he, hw''⟩ => by subst he; exact h _ _ hw'' h2))⟩
  | halt x w' => simp only [Oper.quietUpon] at h3

theorem round_op_of_quiet {l n i : Nat} {a : Act} {K : Act → Prop} {K' : Act → World → Prop} {Q' : Exit → Act → World → Prop} {w : World} (hd : ∀ (j : Nat) (o : Oper), ops[j]? = some o → ∀ c, o.op ≠ .defer c) (hC : C w) (h : ∀ a w', C w' → K a → K' a w')
    (hh : qOp P ops C i K a) : wpOpIn (Fence.wide.inRound l) n P ops Q' i K' a w := by
  unfold qOp at hh
  unfold wpOpIn
  split
  · rename_i ho; simp only [ho] at hh; exact h _ _ hC hh
  · rename_i o ho
    simp only [ho] at hh
    split
    · rename_i hw; simp only [hw, if_true] at hh; exact round_wp_of_quiet (hd _ _ ho) hC h hh
    · rename_i hw; simp only [hw] at hh; exact ⟨fun _ _ => trivial, h _ _ hC hh⟩

theorem round_any_of_quiet {l n : Nat} {md : Region.Mode} {Q : Act → Prop} {Q' : Exit → Act → World → Prop} (hd : ∀ (j : Nat) (o : Oper), ops[j]? = some o → ∀ c, o.op ≠ .defer c) (hQ : ∀ a w, C w → Q a → Q' .normal a w) : ∀ (fuel : Nat) (listed : Array Bool) (a : Act) (w : World), C w →
    wpAnyQ P md ops C Q fuel listed a → wpAnyIn (Fence.wide.inRound l) n P md ops Q' fuel listed a w
  | 0, _, _, _, hw, h => ⟨h.1, hQ _ _ hw h.2⟩
  | fuel + 1, _, _, _, hw, h => ⟨fun h0 => hQ _ _ hw (h.1 h0), fun i hi => round_op_of_quiet hd hw (fun a' w' hw' => round_any_of_quiet hd hQ fuel _ a' w' hw') (h.2 i hi)⟩
end

def noDefer (l : List Oper) : Bool := l.all fun o => !opDefers o.op
theorem noDefer_spec {l : List Oper} (h : noDefer l = true) : ∀ (j : Nat) (o : Oper), l.toArray[j]? = some o → ∀ c, o.op ≠ .defer c := by
  intro j o hj
  have : o ∈ l := by
    rw [List.getElem?_toArray] at hj
    exact List.mem_of_getElem? hj
  have h1 := List.all_eq_true.1 h o this
  exact opDefers_no (by simpa using h1)

/-- A region that draws its order, in a round, whose operations read, and whose callees leave a world that has grown. -/
theorem wpIn_region_wov {P : Program} {n l0 id : Nat} {Q : Exit → Act → World → Prop} {a : Act} {w : World} {l : List Oper} (hd : noDefer l = true) (hm : P.follows .mixedOrders = true) (hB : Region.lexB .any l.toArray = true)
    (h : wpQuiet P l.toArray (fun w' => ∃ n, w' = Wov w n) (fun a' => ∀ w', (∃ n, w' = Wov w n) → Q .normal a' w') l a) : (Code.region id l.toArray true).wpIn (Fence.wide.inRound l0) n P Q a w := by
  have hB' := hB
  simp only [Region.lexB, Bool.and_eq_true] at hB'
  refine wpIn_region_any hm (round_any_of_quiet (C := fun w' => ∃ n, w' = Wov w n) (Q := fun a' => ∀ w', (∃ n, w' = Wov w n) → Q .normal a' w') (noDefer_spec hd) (fun _ w' hw' h => h w' hw') _ _ _ _ ⟨⟨#[], w.drawn + 1⟩, by simp [Wov]⟩ ?_)
  have := wpAnyQ_lex (C := fun w' => ∃ n, w' = Wov w n) (md := .any) hB'.1 l 0 (Array.replicate l.toArray.size false) a (by simp) (by simpa using hB'.2) h
  simpa using this

#print axioms wpIn_region_wov
end Go.Proofs.YtpmpapenjcemjaaGreatDoor

namespace Go.Proofs.YtpmpapenjcemjaaGreatDoor
set_option linter.unusedSimpArgs false
set_option linter.unusedVariables false
open Go Go.RowKit Go.Shelf
attribute [local go_sem] Oper.semAt_some

set_option maxRecDepth 10000 in
set_option maxHeartbeats 400000 in
theorem at_off (M B off n i j N cap : Nat) (w : World) (hn : n ≤ 4) (hi : i ≤ 4) (hj : j ≤ 4) (hN : i * n + j < N) (hN2 : N ≤ 9223372036854775807)
    (c0 : w.cell? ⟨M, 0, none⟩ = some (.int .i64 n)) (c1 : w.cell? ⟨M, 1, none⟩ = some (.slice (some ⟨B, off, none⟩) N cap)) :
    Calls Tryz.prog 88 #[.pointer (some ⟨M, 0, none⟩), .int .i64 i, .int .i64 j] w fun e w' => e = .returned (.pointer (some ⟨B, off + (i * n + j), none⟩)) ∧ ∃ m, w' = w.drewN m := by
  have hq0 : i * n ≤ 4 * 4 := Nat.mul_le_mul hi hn
  obtain ⟨q, hq⟩ : ∃ q : Nat, q = i * n := ⟨_, rfl⟩
  rw [← hq] at hN hq0 ⊢
  have hm : (i : Int) * (n : Int) = (q : Int) := by rw [hq]; simp
  clear hq
  have h1 : ((q : Int) + (j : Int)).toNat = q + j := by omega
  have h2 : IntKind.i64.wrap ((q : Int) + (j : Int)) = (q : Int) + (j : Int) := by rw [IntKind.wrap_i64]; omega
  have h3 : IntKind.i64.wrap (q : Int) = (q : Int) := by rw [IntKind.wrap_i64]; omega
  have h4 : (0 : Int) ≤ (q : Int) + (j : Int) := by omega
  have h5 : (q : Int) + (j : Int) < (N : Int) := by omega
  go_enter Tryz.func88, Tryz.ntmps88
  go_wp2
  go_quiet (fail)
  go_wp2
  go_ret
  exact ⟨rfl, nq, rfl⟩
theorem at_any (M B n i j N cap : Nat) (w : World) (hn : n ≤ 4) (hi : i ≤ 4) (hj : j ≤ 4) (hN : i * n + j < N) (hN2 : N ≤ 9223372036854775807)
    (c0 : w.cell? ⟨M, 0, none⟩ = some (.int .i64 n)) (c1 : w.cell? ⟨M, 1, none⟩ = some (.slice (some ⟨B, 0, none⟩) N cap)) :
    Calls Tryz.prog 88 #[.pointer (some ⟨M, 0, none⟩), .int .i64 i, .int .i64 j] w fun e w' => e = .returned (.pointer (some ⟨B, i * n + j, none⟩)) ∧ ∃ m, w' = w.drewN m := by
  have := at_off M B 0 n i j N cap w hn hi hj hN hN2 c0 c1
  rwa [Nat.zero_add] at this

set_option maxHeartbeats 400000 in
theorem pairs_any (n : Int) (w : World) :
    Calls Tryz.prog 86 #[.int .i64 n] w fun e w' => e = .returned (.func (.func 131) #[] #[.pointer (some ⟨w.heap.size, 0, none⟩)]) ∧ w' = w.alloc (.cells #[.int .i64 n] 3) := by
  go_enter Tryz.func86, Tryz.ntmps86
  go_wp2
  go_ret
  exact ⟨rfl, rfl⟩

/-- A pair of clocks. -/
abbrev PairC (n : Nat) := { p : Nat × Nat // p.1 < n ∧ p.2 < n }
def pairAt (n k : Nat) (h : k < n * n) : PairC n := ⟨(k / n, k % n), by
  have hn : 0 < n := by rcases Nat.eq_zero_or_pos n with h0 | h0
                        · subst h0; omega
                        · exact h0
  exact ⟨Nat.div_lt_of_lt_mul h, Nat.mod_lt _ hn⟩⟩
/-- The first pairs, row by row. -/
def pairsUpto (n : Nat) : (k : Nat) → k ≤ n * n → List (PairC n)
  | 0, _ => []
  | k + 1, h => pairsUpto n k (by omega) ++ [pairAt n k (by omega)]
theorem pairsUpto_len (n : Nat) : ∀ k h, (pairsUpto n k h).length = k
  | 0, _ => rfl
  | k + 1, h => by simp [pairsUpto, pairsUpto_len n k]
def pairsAll (n : Nat) : List (PairC n) := pairsUpto n (n * n) (Nat.le_refl _)
def pairE {n : Nat} (x : PairC n) : Array Value := #[.int .i64 (x.1.1 : Int), .int .i64 (x.1.2 : Int)]
theorem pairE_at (n k : Nat) (h : k < n * n) : pairE (pairAt n k h) = #[.int .i64 ((k / n : Nat) : Int), .int .i64 ((k % n : Nat) : Int)] := rfl

theorem pairE_wr (n k : Nat) (h : k < n * n) : pairE (pairAt n k h) = #[.int .i64 ((k : Int) / (n : Int)), .int .i64 ((k : Int) % (n : Int))] := by
  rw [pairE_at]
  have a : ((k / n : Nat) : Int) = (k : Int) / (n : Int) := by simp
  have b : ((k % n : Nat) : Int) = (k : Int) % (n : Int) := by simp
  rw [← a, ← b]
theorem grown_drew (w : World) : w.grownBy w.drew none := ⟨rfl, rfl, rfl, Nat.le_refl _, fun _ _ _ => rfl⟩

/-- What a round over pairs keeps: the box of the count. -/
def KeepsBox (Bx : Nat) (v : Value) (A B : World) : Prop := A.cell? ⟨Bx, 0, none⟩ = some v → B.cell? ⟨Bx, 0, none⟩ = some v

set_option maxRecDepth 100000 in
set_option maxHeartbeats 2000000 in
theorem pairs1_in (n : Nat) (hn0 : 1 ≤ n) (hn : n ≤ 4) (r l Bx : Nat) (J Jx : List (PairC n) → World → Prop) (W : World) (hJ : AbidesFrom W.heap.size J)
    (hY : ∀ pre x W1, J pre W1 → pre.length < n * n → YieldAt Fence.wide (r - 1) Tryz.prog l (pairE x) W1 fun e W' =>
      (e = .returned (.bool true) ∧ J (pre ++ [x]) W' ∧ KeepsBox Bx (.int .i64 n) W1 W') ∨ (e = .returned (.bool false) ∧ Jx (pre ++ [x]) W'))
    (hB : W.cell? ⟨Bx, 0, none⟩ = some (.int .i64 n)) (h0 : J [] W) :
    CallsIn Fence.wide r Tryz.prog 131 #[.func (.yield l) #[] #[], .pointer (some ⟨Bx, 0, none⟩)] W fun e W' => (∃ v, e = .returned v) ∧
      ((∃ xs, xs = pairsAll n ∧ J xs W') ∨ (∃ pre, True ∧ Jx pre W')) := by
  refine callsIn_of_wp Tryz.func131 rfl trivial ?_ rfl
  simp only [Tryz.ntmps131, List.size_toArray, List.length_cons, List.length_nil, Nat.reduceAdd, Nat.reduceSub, Array.replicate_succ, Array.replicate_zero, List.push_toArray, List.append_toArray, List.nil_append, List.cons_append]
  have hq0 : n * n ≤ 4 * 4 := Nat.mul_le_mul hn hn
  obtain ⟨q, hq⟩ : ∃ q : Nat, q = n * n := ⟨_, rfl⟩
  have HQ := Lib.hid hq
  rw [← hq] at hq0
  have hm : (n : Int) * (n : Int) = (q : Int) := by rw [hq]; simp
  clear hq
  gi_wp2
  clear hm
  gi_loopw [3, 7] (fun _ i wr => ∃ (k : Nat) (hk : k ≤ n * n), i = .int .i64 k ∧ J (pairsUpto n k hk) wr ∧ wr.cell? ⟨Bx, 0, none⟩ = some (.int .i64 n))
    (fun _ i _ => q - (intOf i).toNat)
  case atStart => exact ⟨0, Nat.zero_le _, rfl, h0, hB⟩
  case round =>
    obtain ⟨k, hk, rfl, hJs, hBx⟩ := hrel
    by_cases hlt : k < n * n
    · have hkq : k < q := by rw [HQ.out]; exact hlt
      have hJd : J (pairsUpto n k hk) wr.drew := hJ _ wr wr.drew none hJs (grown_drew wr) (fun r e => by cases e)
      obtain ⟨fn, tmps, assign, body, hy, hR⟩ := hY _ (pairAt n k hlt) wr.drew hJd (by rw [pairsUpto_len]; exact hlt)
      rw [pairE_wr n k hlt] at hy
      have b1 : (0 : Int) ≤ (k : Int) / (n : Int) := Int.ediv_nonneg (by omega) (by omega)
      have b2 : (k : Int) / (n : Int) ≤ 1000 := by have := Int.ediv_le_self (a := (k : Int)) (n : Int) (by omega); omega
      have b4 : IntKind.i64.wrap ((k : Int) / (n : Int)) = (k : Int) / (n : Int) := by rw [IntKind.wrap_i64]; omega
      have b3 : (k : Int).tmod (n : Int) = (k : Int) % (n : Int) := Int.tmod_eq_emod_of_nonneg (by omega)
      have hR' : RoundIn Fence.wide (r - 1) Tryz.prog l fn tmps assign body wr.drew fun e W' => ∃ t, e = .returned (.bool t) ∧ Hid ((t = true ∧ J (pairsUpto n k hk ++ [pairAt n k hlt]) W' ∧ KeepsBox Bx (.int .i64 n) wr.drew W') ∨ (t = false ∧ Jx (pairsUpto n k hk ++ [pairAt n k hlt]) W')) :=
        hR.mono fun e W' he => by
          rcases he with ⟨he, h1, h2⟩ | ⟨he, h1⟩
          · exact ⟨true, he, .inl ⟨rfl, h1, h2⟩⟩
          · exact ⟨false, he, .inr ⟨rfl, h1⟩⟩
      clear hR
      gi_wp2
      have hmix : Tryz.prog.follows .mixedOrders = true := by kernel_rfl
      gi_region_with_o ((refine ⟨(fun h => by cases h), hR'.mono ?_⟩; rintro e W3 ⟨t, rfl, ht⟩))
      all_goals
        cases t
        · obtain hJx3 : Jx (pairsUpto n k hk ++ [pairAt n k hlt]) W3 := by
            rcases ht.out with ⟨h, _⟩ | ⟨_, h⟩
            · cases h
            · exact h
          clear ht
          gi_wp2
          refine bodyPost_ret (results_none rfl _ _ _) rfl ?_
          exact ⟨⟨_, rfl⟩, .inr ⟨_, trivial, hJx3⟩⟩
        · obtain ⟨hJ3, hk3⟩ : J (pairsUpto n k hk ++ [pairAt n k hlt]) W3 ∧ KeepsBox Bx (.int .i64 n) wr.drew W3 := by
            rcases ht.out with ⟨_, h⟩ | ⟨h, _⟩
            · exact h
            · cases h
          have hB3 := hk3 (by simpa using hBx)
          clear ht
          gi_wp2
          go_roundw
          case rel => exact ⟨k + 1, hlt, by go_num, hJ3, hB3⟩
          case measure => simp [intOf]; omega
    · have hkq : q ≤ k := by rw [HQ.out]; omega
      gi_wp2
      go_end0
      exact ⟨⟨_, rfl⟩, .inl ⟨_, rfl, by have e : k = n * n := by omega
                                        subst e; exact hJs⟩⟩

/-- The iterator that pairs hands back has its contract. -/
theorem pairs1_stops (n : Nat) (hn0 : 1 ≤ n) (hn : n ≤ 4) (r Bx : Nat) (w : World) (hBx : Bx < w.heap.size) (hB : w.cell? ⟨Bx, 0, none⟩ = some (.int .i64 n)) :
    SeqStopsK Fence.wide r Tryz.prog 131 #[.pointer (some ⟨Bx, 0, none⟩)] (pairE (n := n)) (KeepsBox Bx (.int .i64 n)) (fun xs => xs = pairsAll n) (fun _ => True) (n * n) w :=
  fun l J Jx W hW hJ _ hY h0 => pairs1_in n hn0 hn r l Bx J Jx W hJ hY ((hW.cell (p := ⟨Bx, 0, none⟩) hBx).trans hB) h0
theorem keepsBox_t {Bx : Nat} {v : Value} {A B C : World} (h : KeepsBox Bx v A B) (k : KeepsBox Bx v B C) : KeepsBox Bx v A C := fun hc => k (h hc)
theorem keepsBox_b {Bx : Nat} {v : Value} (W : World) (l : Nat) (o o' : Obj) (h : W.heap[l]? = some o) (ho : o.isCells = false) : KeepsBox Bx v W (W.putObj l o') := by
  intro hc
  refine (cell_kept hc (grownBy_putObj' W l o') (fun r e => by cases e; exact ⟨o, h, ho⟩))
end Go.Proofs.YtpmpapenjcemjaaGreatDoor

namespace Go.Proofs.YtpmpapenjcemjaaGreatDoor
set_option linter.unusedSimpArgs false
set_option linter.unusedVariables false
open Go Go.RowKit Go.Shelf
attribute [local go_sem] Oper.semAt_some

/-- All that lay in w lies in W as it lay, but for block B. -/
structure Chg (w : World) (B : Nat) (W : World) : Prop where
  os : W.os = w.os
  tape : W.tape = w.tape
  output : W.output = w.output
  size : w.heap.size ≤ W.heap.size
  block : ∀ b, b < w.heap.size → b ≠ B → W.heap[b]? = w.heap[b]?

theorem Chg.refl (w : World) (B : Nat) : Chg w B w := ⟨rfl, rfl, rfl, Nat.le_refl _, fun _ _ _ => rfl⟩
theorem Chg.trans {a b c : World} {B : Nat} (h : Chg a B b) (g : Chg b B c) : Chg a B c :=
  ⟨g.os.trans h.os, g.tape.trans h.tape, g.output.trans h.output, Nat.le_trans h.size g.size, fun k hk hB => (g.block k (Nat.lt_of_lt_of_le hk h.size) hB).trans (h.block k hk hB)⟩
theorem Chg.of_below {a b : World} {B : Nat} (h : Below a.heap.size a b) : Chg a B b := ⟨h.os, h.tape, h.output, h.size, fun k hk _ => h.block k hk⟩
theorem Chg.wov (w : World) (B : Nat) (p : Gr) : Chg w B (Wov w p) := .of_below (below_Wov w p)
theorem Chg.drew (w : World) (B : Nat) : Chg w B w.drew := ⟨rfl, rfl, rfl, Nat.le_refl _, fun _ _ _ => rfl⟩
theorem Chg.drewN (w : World) (B n : Nat) : Chg w B (w.drewN n) := ⟨rfl, rfl, rfl, Nat.le_refl _, fun _ _ _ => rfl⟩
theorem Chg.alloc (w : World) (B : Nat) (o : Obj) : Chg w B (w.alloc o) := .of_below ((Below.refl _ w).alloc (Nat.le_refl _) o)
theorem Chg.set (w : World) (B x : Nat) (v : Value) : Chg w B (w.setCell ⟨B, x, none⟩ v) := by
  refine ⟨rfl, rfl, rfl, ?_, fun k hk hB => ?_⟩
  · simp [World.setCell]
  · exact Below.heap_setCell _ _ _ k (fun e => hB (by rw [e]))
theorem Chg.cell {w W : World} {B b x : Nat} (h : Chg w B W) (hb : b < w.heap.size) (hB : b ≠ B) : W.cell? ⟨b, x, none⟩ = w.cell? ⟨b, x, none⟩ := World.cell?_of_block (h.block b hb hB)
theorem Chg.frozen {w W : World} {B b x : Nat} (h : Chg w B W) (hb : b < w.heap.size) (hB : b ≠ B) : W.frozen? ⟨b, x, none⟩ = w.frozen? ⟨b, x, none⟩ := World.frozen?_of_block (h.block b hb hB)
/-- What is no cells, and lies at or beyond the end, may turn. -/
theorem Chg.own {w W W' : World} {B n0 : Nat} {row : Option Nat} (h : Chg w B W) (hg : W.grownBy W' row) (hr : ∀ r, row = some r → n0 ≤ r) (hn : w.heap.size ≤ n0) : Chg w B W' :=
  ⟨hg.os.trans h.os, hg.tape.trans h.tape, hg.output.trans h.output, Nat.le_trans h.size hg.size, fun k hk hB => (hg.block k (Nat.lt_of_lt_of_le hk h.size) (fun e => by have := hr k e.symm; omega)).trans (h.block k hk hB)⟩
/-- If the one block is new, the world has grown. -/
theorem Chg.below {w W : World} {B : Nat} (h : Chg w B W) (hB : w.heap.size ≤ B) : Below w.heap.size w W := ⟨h.os, h.tape, h.output, h.size, fun k hk => h.block k hk (by omega)⟩

/-- A block whose first cells hold numbers, and may be written. -/
def HoldsI (W : World) (B N : Nat) (f : Nat → Int) : Prop := ∀ x, x < N → W.cell? ⟨B, x, none⟩ = some (.int .i64 (f x)) ∧ W.frozen? ⟨B, x, none⟩ = false
def upd (f : Nat → Int) (a : Nat) (v : Int) : Nat → Int := fun y => if y = a then v else f y
theorem HoldsI.block_lt {W : World} {B N : Nat} {f : Nat → Int} (h : HoldsI W B N f) (hN : 0 < N) : B < W.heap.size := by
  have := World.block_lt_of_cell? W _ (h 0 hN).1
  exact this
theorem HoldsI.of_block {W W' : World} {B N : Nat} {f : Nat → Int} (h : HoldsI W B N f) (hb : W'.heap[B]? = W.heap[B]?) : HoldsI W' B N f := fun x hx =>
  ⟨(World.cell?_of_block hb).trans (h x hx).1, (World.frozen?_of_block hb).trans (h x hx).2⟩
theorem HoldsI.below {W W' : World} {B N k : Nat} {f : Nat → Int} (h : HoldsI W B N f) (hb : Below k W W') (hk : B < k) : HoldsI W' B N f := h.of_block (hb.block B hk)
theorem HoldsI.wov {W : World} {B N : Nat} {f : Nat → Int} (h : HoldsI W B N f) (hB : B < W.heap.size) (p : Gr) : HoldsI (Wov W p) B N f := h.below (below_Wov W p) hB
theorem HoldsI.own {W W' : World} {B N : Nat} {f : Nat → Int} {row : Option Nat} (h : HoldsI W B N f) (hg : W.grownBy W' row) (hr : ∀ r, row = some r → ∃ o : Obj, W.heap[r]? = some o ∧ o.isCells = false) : HoldsI W' B N f := fun x hx =>
  ⟨cell_kept (h x hx).1 hg hr, (frozen_kept (h x hx).1 hg hr).trans (h x hx).2⟩
theorem HoldsI.set {W : World} {B N a : Nat} {f : Nat → Int} (h : HoldsI W B N f) (ha : a < N) (v : Int) : HoldsI (W.setCell ⟨B, a, none⟩ (.int .i64 v)) B N (upd f a v) := by
  intro x hx
  refine ⟨?_, by rw [World.frozen?_setCell]; exact (h x hx).2⟩
  unfold upd
  by_cases e : x = a
  · subst e
    rw [if_pos rfl, setCell_cell_self, (h x hx).1]; rfl
  · rw [if_neg e]
    exact (World.cell?_setCell_other _ _ _ _ (fun e' => by cases e'; exact e rfl)).trans (h x hx).1

/-- One step of a round: the bound of a pair, at most that by clock k. -/
def stepP (n k : Nat) (f : Nat → Int) (x : PairC n) : Nat → Int :=
  if (addR (f (x.1.1 * n + k)) (f (k * n + x.1.2))).1 < f (x.1.1 * n + x.1.2) then upd f (x.1.1 * n + x.1.2) (addR (f (x.1.1 * n + k)) (f (k * n + x.1.2))).1 else f
def diagB (n : Nat) (f : Nat → Int) : Bool := (List.range n).all fun i => decide (1 ≤ f (i * n + i))
def Fits (N : Nat) (f : Nat → Int) : Prop := ∀ x, x < N → fits64 (f x)
theorem addR_fits (a b : Int) : fits64 (addR a b).1 := by
  unfold addR
  split
  · split
    · unfold noneB fits64; simp
    · unfold madeR
      split
      · rename_i h
        have := okN_bd h
        unfold mkB fits64
        simp only
        split <;> omega
      · unfold fits64; simp
  · unfold fits64; simp
theorem Fits.step {n k N : Nat} {f : Nat → Int} (h : Fits N f) (x : PairC n) : Fits N (stepP n k f x) := by
  unfold stepP
  split
  · intro y hy
    unfold upd
    split
    · exact addR_fits _ _
    · exact h y hy
  · exact h
theorem place_lt {n i j : Nat} (hi : i < n) (hj : j < n) : i * n + j < n * n := by
  have : (i + 1) * n ≤ n * n := Nat.mul_le_mul_right n hi
  rw [Nat.add_mul] at this
  omega
end Go.Proofs.YtpmpapenjcemjaaGreatDoor

namespace Go.Proofs.YtpmpapenjcemjaaGreatDoor
set_option linter.unusedSimpArgs false
set_option linter.unusedVariables false
open Go Go.RowKit Go.Shelf
attribute [local go_sem] Oper.semAt_some Nat.add_assoc Nat.add_lt_add_iff_left lit_lt_add

theorem at_wov {M B n N cap : Nat} {W : World} (hn : n ≤ 4) (hN2 : N ≤ 9223372036854775807) (hM : M < W.heap.size)
    (c0 : W.cell? ⟨M, 0, none⟩ = some (.int .i64 n)) (c1 : W.cell? ⟨M, 1, none⟩ = some (.slice (some ⟨B, 0, none⟩) N cap)) (i j : Nat) (hi : i ≤ 4) (hj : j ≤ 4) (hN : i * n + j < N) (p : Gr) :
    Calls Tryz.prog 88 #[.pointer (some ⟨M, 0, none⟩), .int .i64 i, .int .i64 j] (Wov W p) fun e w' => e = .returned (.pointer (some ⟨B, i * n + j, none⟩)) ∧ ∃ q, w' = Wov W q :=
  (at_any M B n i j N cap (Wov W p) hn hi hj hN hN2 (by rw [Wov_cell_past _ _ _ _ hM]; exact c0) (by rw [Wov_cell_past _ _ _ _ hM]; exact c1)).mono fun e w' ⟨he, m, hm⟩ => ⟨he, _, hm.trans (Wov_drewN _ _ _)⟩
theorem at_wov' {M B n N cap : Nat} {W : World} (hn : n ≤ 4) (hN2 : N ≤ 9223372036854775807) (hM : M < W.heap.size)
    (c0 : W.cell? ⟨M, 0, none⟩ = some (.int .i64 n)) (c1 : W.cell? ⟨M, 1, none⟩ = some (.slice (some ⟨B, 0, none⟩) N cap)) (i j : Nat) (hi : i ≤ 4) (hj : j ≤ 4) (hN : i * n + j < N) :
    Calls Tryz.prog 88 #[.pointer (some ⟨M, 0, none⟩), .int .i64 i, .int .i64 j] W fun e w' => e = .returned (.pointer (some ⟨B, i * n + j, none⟩)) ∧ ∃ m, w' = W.drewN m :=
  at_any M B n i j N cap W hn hi hj hN hN2 c0 c1

/-- A loop over pairs of clocks, at the wide fence. -/
theorem wpIn_pairs {n : Nat} (hn0 : 1 ≤ n) (hn : n ≤ 4) {g : Operand} {ps : Array Tmp} {assign body : Code} {Q : Exit → Act → World → Prop} {a : Act} {w : World} {Bx : Nat} (hps : ps.size = 2)
    (hg : a.eval g = .func (.func 131) #[] #[.pointer (some ⟨Bx, 0, none⟩)]) (hBx : Bx < w.heap.size) (hc : w.cell? ⟨Bx, 0, none⟩ = some (.int .i64 n))
    (I : List (PairC n) → World → Prop) (Ix : Code → List (PairC n) → World → Prop) (hI : OwnFrom w.heap.size I) (hIx : ∀ c, OwnFrom w.heap.size (Ix c)) (h0 : I [] w) (a₁ : PairC n → Act)
    (hassign : ∀ (l : Nat) (x : PairC n) (W : World) (K : Act → World → Prop), K (a₁ x) W →
      assign.wpIn (Fence.wide.inRound l) 1 Tryz.prog (Exit.then K (fun _ _ _ => False)) { tmps := (ps.zip (pairE x)).foldl (fun t (p, v) => t.setIfInBounds p v) a.tmps, defers := [] } W)
    (hbody : ∀ (l : Nat) (pre : List (PairC n)) (x : PairC n) (W : World), I pre W → pre.length < n * n → body.wpIn (Fence.wide.inRound l) 1 Tryz.prog (ownPostK (KeepsBox Bx (.int .i64 n)) I Ix (pre ++ [x]) W) (a₁ x) W)
    (hdone : ∀ (D : Nat) (W : World), w.heap.size ≤ D → I (pairsAll n) W → W.heap[D]? = some (.deferred (some [])) → Q .normal { a with defers := { target := .collected D, args := #[] } :: a.defers } W)
    (hstop : ∀ (D : Nat) (c : Code) (pre : List (PairC n)) (W : World), w.heap.size ≤ D → Ix c pre W → W.heap[D]? = some (.deferred (some [])) → c.wpIn Fence.wide 3 Tryz.prog Q { a with defers := { target := .collected D, args := #[] } :: a.defers } W) :
    (Code.rangeFunc g ps assign body).wpIn Fence.wide 3 Tryz.prog Q a w :=
  wpIn_rangeFunc_ownF rfl (by omega) hg trivial (enters_of Tryz.func131 (by kernel_rfl) rfl) (pairs1_stops n hn0 hn 2 Bx w hBx hc) (fun h k => keepsBox_t h k) (fun W l o o' _ h ho _ => keepsBox_b W l o o' h ho) (Below.refl _ _) (fun x => hps.symm ▸ rfl)
    I Ix hI hIx h0 a₁ hassign hbody (fun D xs W hD hx hi hk => by subst hx; exact hdone D W hD hi hk) (fun D c pre W hD _ hi hk => hstop D c pre W hD hi hk)

theorem keepsOthers_wov (W : World) (p : Gr) : KeepsOthers W (Wov W p) := KeepsOthers.of_grownBy (row := none) ⟨rfl, rfl, rfl, by simp [Wov], fun k hk _ => Wov_heap W p k hk⟩ (fun j o e => by cases e)

theorem Chg.put {w W : World} {B : Nat} (h : Chg w B W) {D : Nat} (hD : w.heap.size ≤ D) (o : Obj) : Chg w B (W.putObj D o) :=
  h.own (grownBy_putObj' W D o) (n0 := w.heap.size) (fun r e => by cases e; exact hD) (Nat.le_refl _)
theorem HoldsI.put_drewN {W : World} {B N : Nat} {f : Nat → Int} (h : HoldsI W B N f) {D : Nat} (hD : W.heap[D]? = some (.deferred (some []))) (m : Nat) (o' : Obj) : HoldsI ((W.drewN m).putObj D o') B N f :=
  (h.of_block (W' := W.drewN m) rfl).own (grownBy_putObj' _ D o') (fun r e => by cases e; exact ⟨_, hD, rfl⟩)
theorem diagB_f {n t : Nat} {g : Nat → Int} (h : t < n) (hv : g (t * n + t) < 1) : diagB n g = false := by
  unfold diagB
  rw [List.all_eq_false]
  exact ⟨t, by simpa using h, by simp; omega⟩
theorem diagB_t {n : Nat} {g : Nat → Int} (h : ∀ x, x < n → 1 ≤ g (x * n + x)) : diagB n g = true := by
  unfold diagB
  rw [List.all_eq_true]
  intro x hx
  simpa using h x (by simpa using hx)
/-- What holds between two rounds of through. -/
structure ThI (w w3 : World) (M B n k : Nat) (f : Nat → Int) (pre : List (PairC n)) (W : World) : Prop where
  chg : Chg w3 B W
  holds : HoldsI W B (n * n) (pre.foldl (stepP n k) f)

theorem thI_own (w w3 : World) (M B n k : Nat) (f : Nat → Int) : OwnFrom w3.heap.size (ThI w w3 M B n k f) := fun s A B' row hs hg hr =>
  ⟨hs.chg.own hg (fun r e => (hr r e).1) (Nat.le_refl _), hs.holds.own hg (fun r e => (hr r e).2)⟩

set_option maxRecDepth 100000 in
set_option maxHeartbeats 4000000 in
theorem through_in (M B n k cap : Nat) (f : Nat → Int) (w : World) (hn0 : 1 ≤ n) (hn : n ≤ 4) (hk : k < n) (hM : M < w.heap.size) (hMB : M ≠ B) (hB : B < w.heap.size)
    (c0 : w.cell? ⟨M, 0, none⟩ = some (.int .i64 n)) (c1 : w.cell? ⟨M, 1, none⟩ = some (.slice (some ⟨B, 0, none⟩) (n * n) cap)) (hH : HoldsI w B (n * n) f) (hF : Fits (n * n) f) :
    CallsIn Fence.wide 3 Tryz.prog 121 #[.pointer (some ⟨M, 0, none⟩), .int .i64 k] w fun e W' =>
      e = .returned (.bool (diagB n ((pairsAll n).foldl (stepP n k) f))) ∧ Chg w B W' ∧ HoldsI W' B (n * n) ((pairsAll n).foldl (stepP n k) f) := by
  refine callsIn_of_wp_marks Tryz.func121 rfl trivial ?_ rfl
  simp only [Tryz.ntmps121, List.size_toArray, List.length_cons, List.length_nil, Nat.reduceAdd, Nat.reduceSub, Array.replicate_succ, Array.replicate_zero, List.push_toArray, List.append_toArray, List.nil_append, List.cons_append]
  have hq0 : n * n ≤ 4 * 4 := Nat.mul_le_mul hn hn
  gi_wp2_with (refine ⟨trivial, ?_⟩; gi_at_call 86; refine (callsIn_wide.2 (pairs_any _ _)).mono ?_; rintro e w' ⟨rfl, rfl⟩)
  obtain ⟨w3, hw3⟩ : ∃ w3, ((w.alloc (.cells #[.pointer (some ⟨M, 0, none⟩)] 154)).alloc (.cells #[.int .i64 k] 3)).alloc (.cells #[.int .i64 n] 3) = w3 := ⟨_, rfl⟩
  have b0 : w3.cell? ⟨w.heap.size, 0, none⟩ = some (.pointer (some ⟨M, 0, none⟩)) := by rw [← hw3]; simp [go_sem]
  have b1 : w3.cell? ⟨w.heap.size + 1, 0, none⟩ = some (.int .i64 k) := by rw [← hw3]; simp [go_sem]
  have b2 : w3.cell? ⟨w.heap.size + 2, 0, none⟩ = some (.int .i64 n) := by rw [← hw3]; simp [go_sem]
  have hz : w3.heap.size = w.heap.size + 3 := by rw [← hw3]; simp
  have hch : Chg w B w3 := by rw [← hw3]; exact ((Chg.alloc w B _).trans (Chg.alloc _ B _)).trans (Chg.alloc _ B _)
  have d0 : w3.cell? ⟨M, 0, none⟩ = some (.int .i64 n) := (hch.cell hM hMB).trans c0
  have d1 : w3.cell? ⟨M, 1, none⟩ = some (.slice (some ⟨B, 0, none⟩) (n * n) cap) := (hch.cell hM hMB).trans c1
  have hH3 : HoldsI w3 B (n * n) f := by
    rw [← hw3]
    exact hH.below ((((Below.refl _ w).alloc (Nat.le_refl _) _).alloc (by simp) _).alloc (by simp; omega) _) hB
  rw [hw3]
  apply wpIn_pairs hn0 hn (Bx := w.heap.size + 2) rfl rfl (by omega) b2 (ThI w w3 M B n k f) (fun _ _ _ => False) (thI_own w w3 M B n k f) (fun _ _ _ _ _ h _ _ => h) ⟨Chg.refl _ _, hH3⟩
  case hassign =>
    intro l x W K hK
    simp only [pairE]
    gi_wp2
    exact hK
  case hbody =>
    rintro l pre ⟨⟨i, j⟩, hi, hj⟩ W ⟨hc2, hW⟩ _
    have e0 : W.cell? ⟨w.heap.size, 0, none⟩ = some (.pointer (some ⟨M, 0, none⟩)) := (hc2.cell (by omega) (by omega)).trans b0
    have e1 : W.cell? ⟨w.heap.size + 1, 0, none⟩ = some (.int .i64 k) := (hc2.cell (by omega) (by omega)).trans b1
    have e2 : W.cell? ⟨w.heap.size + 2, 0, none⟩ = some (.int .i64 n) := (hc2.cell (by omega) (by omega)).trans b2
    have m0 : W.cell? ⟨M, 0, none⟩ = some (.int .i64 n) := (hc2.cell (by omega) hMB).trans d0
    have m1 : W.cell? ⟨M, 1, none⟩ = some (.slice (some ⟨B, 0, none⟩) (n * n) cap) := (hc2.cell (by omega) hMB).trans d1
    have hs := hc2.size
    have z0 : w.heap.size < W.heap.size := by omega
    have z1 : w.heap.size + 1 < W.heap.size := by omega
    have z2 : w.heap.size + 2 < W.heap.size := by omega
    have zM : M < W.heap.size := by omega
    have zB : B < W.heap.size := by omega
    have FF : Fits (n * n) (pre.foldl (stepP n k) f) := by
      have : ∀ (l : List (PairC n)) g, Fits (n * n) g → Fits (n * n) (l.foldl (stepP n k) g) := by
        intro l
        induction l with
        | nil => exact fun g h => h
        | cons x l ih => exact fun g h => ih _ (h.step x)
      exact this pre f hF
    have hfold : (pre ++ [(⟨(i, j), hi, hj⟩ : PairC n)]).foldl (stepP n k) f = stepP n k (pre.foldl (stepP n k) f) ⟨(i, j), hi, hj⟩ := by rw [List.foldl_append]; rfl
    obtain ⟨g, hg⟩ : ∃ g, g = pre.foldl (stepP n k) f := ⟨_, rfl⟩
    rw [← hg] at hW FF hfold
    have ca := (hW (i * n + k) (place_lt hi hk)).1
    have cb := (hW (k * n + j) (place_lt hk hj)).1
    have cc := (hW (i * n + j) (place_lt hi hj)).1
    have cz := (hW (i * n + j) (place_lt hi hj)).2
    have AT := Lib.hid (fun i j hi hj hN p => at_wov (M := M) (B := B) (N := n * n) (cap := cap) (W := W) hn (by omega) zM m0 m1 i j hi hj hN p)
    have ADD := Lib.hid (add_any (g (i * n + k)) (g (k * n + j)) (FF _ (place_lt hi hk)).1 (FF _ (place_lt hi hk)).2 (FF _ (place_lt hk hj)).1 (FF _ (place_lt hk hj)).2)
    have p1 := place_lt hi hk
    have p2 := place_lt hk hj
    have p3 := place_lt hi hj
    have HX : Hid (stepP n k g ⟨(i, j), hi, hj⟩ = if (addR (g (i * n + k)) (g (k * n + j))).1 < g (i * n + j) then upd g (i * n + j) (addR (g (i * n + k)) (g (k * n + j))).1 else g) := rfl
    have HFO := Lib.hid hfold
    have HG := Lib.hid hg
    clear hfold hg
    obtain ⟨⟨s, se⟩, hs2⟩ : ∃ r, r = addR (g (i * n + k)) (g (k * n + j)) := ⟨_, rfl⟩
    rw [← hs2] at ADD HX
    obtain ⟨va, hva⟩ : ∃ v, v = g (i * n + k) := ⟨_, rfl⟩
    obtain ⟨vb, hvb⟩ : ∃ v, v = g (k * n + j) := ⟨_, rfl⟩
    obtain ⟨vc, hvc⟩ : ∃ v, v = g (i * n + j) := ⟨_, rfl⟩
    rw [← hva] at ca ADD
    rw [← hvb] at cb ADD
    rw [← hvc] at cc HX
    simp only [pair2] at ADD HX
    clear hs2 hva hvb hvc b0 b1 b2 d0 d1 c0 c1 hH hH3 hw3 hch hF
    gi_wp2
    refine wpIn_region_wov (by kernel_rfl) (by kernel_rfl) (by kernel_rfl) ?_
    repeat (go_big_quiet_step (first | (go_at_call 88; exact AT.out _ _ (by omega) (by omega) (by assumption) _) | (go_at_call 164; exact ADD.out.at _ _)))
    refine wpQuiet_nil ?_
    rintro _ ⟨pq, rfl⟩
    have y1 : (Wov W pq).cell? ⟨B, i * n + j, none⟩ = some (.int .i64 vc) := by rw [Wov_cell_past _ _ _ _ zB]; exact cc
    have hKO : ∀ p, KeepsOthers W (Wov W p) := fun p => keepsOthers_wov W p
    have HKO := Lib.hid hKO
    clear hKO
    gi_wp2_with (refine ⟨trivial, ?_⟩; gi_at_call 88; refine (CallsIn.inRound l (callsIn_wide.2 (AT.out _ _ (by omega) (by omega) (by assumption) _))).mono ?_; rintro e w' ⟨rfl, q, rfl⟩)
    · have hlt : s < vc := by assumption
      have hHq : HoldsI (Wov W q) B (n * n) g := hW.wov zB q
      refine ⟨(HKO.out q).trans (KeepsOthers.setCell _ _ _), fun _ => ?_, ?_, ?_⟩
      · rw [World.cell?_setCell_other _ _ _ _ (fun e' => by have e2 := congrArg Addr.block e'; simp at e2; omega), Wov_cell_past _ _ _ _ z2]; exact e2
      · exact (hc2.trans (Chg.wov W B q)).trans (Chg.set _ _ _ _)
      · rw [HFO.out, HX.out, if_pos hlt]; exact hHq.set p3 s
    · have hge : ¬ s < vc := by omega
      have hHq : HoldsI (Wov W q) B (n * n) g := hW.wov zB q
      refine ⟨HKO.out q, fun _ => ?_, ?_, ?_⟩
      · rw [Wov_cell_past _ _ _ _ z2]; exact e2
      · exact hc2.trans (Chg.wov W B q)
      · rw [HFO.out, HX.out, if_neg hge]; exact hHq
  case hdone =>
    rintro D W hD ⟨hc2, hW⟩ hK
    have e0 : W.cell? ⟨w.heap.size, 0, none⟩ = some (.pointer (some ⟨M, 0, none⟩)) := (hc2.cell (by omega) (by omega)).trans b0
    have m0 : W.cell? ⟨M, 0, none⟩ = some (.int .i64 n) := (hc2.cell (by omega) hMB).trans d0
    have m1 : W.cell? ⟨M, 1, none⟩ = some (.slice (some ⟨B, 0, none⟩) (n * n) cap) := (hc2.cell (by omega) hMB).trans d1
    obtain ⟨g, hg⟩ : ∃ g, g = (pairsAll n).foldl (stepP n k) f := ⟨_, rfl⟩
    rw [← hg] at hW
    have HG := Lib.hid hg
    have hcw : Chg w B W := hch.trans hc2
    clear hg b0 b1 b2 d0 d1 c0 c1 hH hH3 hw3 hch hF hc2
    gi_wp2
    gi_loopw [9, 53, 55, 56, 57, 58, 59, 60, 61, 62, 63] (fun _ i _ _ _ _ _ _ _ _ _ wr => ∃ t : Nat, t ≤ n ∧ i = .int .i64 t ∧ Hid (∀ x, x < t → 1 ≤ g (x * n + x)) ∧ ∃ m, wr = W.drewN m)
      (fun _ i _ _ _ _ _ _ _ _ _ _ => n - (intOf i).toNat)
    case atStart => exact ⟨0, Nat.zero_le _, rfl, (fun x hx => by omega), 0, rfl⟩
    case round =>
      obtain ⟨t, ht, rfl, hpre, m, rfl⟩ := hrel
      by_cases hlt : t < n
      · have ct := (hW (t * n + t) (place_lt hlt hlt)).1
        have pt := place_lt hlt hlt
        obtain ⟨v, hv⟩ : ∃ v, v = g (t * n + t) := ⟨_, rfl⟩
        rw [← hv] at ct
        have HV := Lib.hid hv
        clear hv
        gi_wp2_with (refine ⟨trivial, ?_⟩; gi_at_call 88; refine (callsIn_wide.2 (at_any M B n t t (n * n) cap _ hn (by omega) (by omega) pt (by omega) (by rw [World.cell?_drewN]; exact m0) (by rw [World.cell?_drewN]; exact m1))).mono ?_; rintro e w' ⟨rfl, q, rfl⟩)
        · have hv1 : v < 1 := by assumption
          refine ⟨by simp, .inl ⟨_, _, rfl, run_takeDeferred (show (W.drewN (m + q)).heap[D]? = _ from hK), ?_⟩⟩
          refine ⟨_, results_tmp rfl _ _ _, ?_, ?_, ?_⟩
          · rw [← HG.out, diagB_f hlt (by rw [← HV.out]; exact hv1)]; rfl
          · exact (hcw.trans (Chg.drewN _ _ _)).put (by omega) _
          · rw [← HG.out]; exact hW.put_drewN hK _ _
        · have hv1 : 1 ≤ v := by omega
          have hpre' : Hid (∀ x, x < t + 1 → 1 ≤ g (x * n + x)) := fun x hx => by
            by_cases e : x = t
            · subst e; rw [← HV.out]; exact hv1
            · exact hpre.out x (by omega)
          refine ⟨⟨t + 1, hlt, by go_num, hpre', _, rfl⟩, by simp [intOf]; omega⟩
      · have e : t = n := by omega
        subst e
        gi_wp2
        refine ⟨by simp, .inl ⟨_, _, rfl, run_takeDeferred (show (W.drewN m).heap[D]? = _ from hK), ?_⟩⟩
        refine ⟨_, results_tmp rfl _ _ _, ?_, ?_, ?_⟩
        · rw [← HG.out, diagB_t hpre.out]; rfl
        · exact (hcw.trans (Chg.drewN _ _ _)).put (by omega) _
        · rw [← HG.out]; exact hW.put_drewN hK _ _
  case hstop =>
    rintro D c pre W _ h _
    exact h.elim

theorem through_any (M B n k cap : Nat) (f : Nat → Int) (w : World) (hn0 : 1 ≤ n) (hn : n ≤ 4) (hk : k < n) (hM : M < w.heap.size) (hMB : M ≠ B) (hB : B < w.heap.size)
    (c0 : w.cell? ⟨M, 0, none⟩ = some (.int .i64 n)) (c1 : w.cell? ⟨M, 1, none⟩ = some (.slice (some ⟨B, 0, none⟩) (n * n) cap)) (hH : HoldsI w B (n * n) f) (hF : Fits (n * n) f) :
    Calls Tryz.prog 121 #[.pointer (some ⟨M, 0, none⟩), .int .i64 k] w fun e W' =>
      e = .returned (.bool (diagB n ((pairsAll n).foldl (stepP n k) f))) ∧ Chg w B W' ∧ HoldsI W' B (n * n) ((pairsAll n).foldl (stepP n k) f) :=
  callsIn_wide.1 (through_in M B n k cap f w hn0 hn hk hM hMB hB c0 c1 hH hF)
#print axioms through_any
end Go.Proofs.YtpmpapenjcemjaaGreatDoor

namespace Go.Proofs.YtpmpapenjcemjaaGreatDoor
set_option linter.unusedSimpArgs false
set_option linter.unusedVariables false
open Go Go.RowKit Go.Shelf
attribute [local go_sem] Nat.add_assoc Nat.add_lt_add_iff_left lit_lt_add

/-- May a bound be in a matrix? -/
def mayB (b : Int) : Bool := decide (b = noneB) || (decide (-288230376151711744 ≤ bnum b) && decide (bnum b ≤ 288230376151711744))

theorem may_big {b : Int} (h : okB b = false) : mayB b = false := by
  simp [okB, okN] at h
  simp [mayB]
  refine ⟨h.1, fun h1 => ?_⟩
  have h2 : -2305843009213693952 ≤ bnum b := by omega
  have := h.2 h2
  omega

set_option maxRecDepth 10000 in
set_option maxHeartbeats 800000 in
theorem may_any (b : Int) (h : fits64 b) : Pure Tryz.prog 129 #[.int .i64 b] (.bool (mayB b)) := by
  intro w
  cases hk : okB b
  · have V := value_bad h.1 h.2 hk
    have R : Hid (mayB b = false) := may_big hk
    have hn : (b == 9223372036854775807) = false := by
      rw [beq_eq_false_iff_ne]
      intro e; subst e
      revert hk; decide
    clear hk
    go_enter Tryz.func129, Tryz.ntmps129
    go_wp2_with (fail)
    refine (V _).mono ?_; rintro e w' ⟨rfl, p, rfl⟩
    go_wp2
    go_ret
    exact gives_bool R.out.symm (by (repeat' (first | (with_reducible assumption) | (with_reducible exact Below.refl _ _) | (with_reducible refine below_wov ?_ ?_ _) | (with_reducible refine below_drewN ?_ _) | (with_reducible refine Below.drew ?_) | (with_reducible refine Below.alloc ?_ ?_ _) | (with_reducible refine Below.setCell ?_ ?_ _) | (with_reducible exact Nat.le_refl _) | omega | (simp only [World.size_alloc, World.size_setCell, World.size_drew, Wov_size, World.heap_drewN]; omega))))
  · by_cases hn : b = noneB
    · subst hn
      have V := value_none
      go_enter Tryz.func129, Tryz.ntmps129
      go_wp2_with (fail)
      refine (V _).mono ?_; rintro e w' ⟨rfl, p, rfl⟩
      go_wp2
      go_ret
      exact gives_bool (by decide) (by (repeat' (first | (with_reducible assumption) | (with_reducible exact Below.refl _ _) | (with_reducible refine below_wov ?_ ?_ _) | (with_reducible refine below_drewN ?_ _) | (with_reducible refine Below.drew ?_) | (with_reducible refine Below.alloc ?_ ?_ _) | (with_reducible refine Below.setCell ?_ ?_ _) | (with_reducible exact Nat.le_refl _) | omega | (simp only [World.size_alloc, World.size_setCell, World.size_drew, Wov_size, World.heap_drewN]; omega))))
    · have V := value_ok h.1 h.2 hk hn
      have R : Hid (mayB b = (decide (-288230376151711744 ≤ bnum b) && decide (bnum b ≤ 288230376151711744))) := by show _ = _; simp [mayB, hn]
      have e := isNone_f hn
      obtain ⟨c, hc⟩ : ∃ c, c = bnum b := ⟨_, rfl⟩
      obtain ⟨s, hs⟩ : ∃ s, s = bstr b := ⟨_, rfl⟩
      rw [← hc, ← hs] at V
      rw [← hc] at R
      clear hk hn hc hs
      go_enter Tryz.func129, Tryz.ntmps129
      go_wp2_with (fail)
      refine (V _).mono ?_; rintro e w' ⟨rfl, p, rfl⟩
      go_wp2
      all_goals
        go_ret
        refine gives_bool ?_ (by (repeat' (first | (with_reducible assumption) | (with_reducible exact Below.refl _ _) | (with_reducible refine below_wov ?_ ?_ _) | (with_reducible refine below_drewN ?_ _) | (with_reducible refine Below.drew ?_) | (with_reducible refine Below.alloc ?_ ?_ _) | (with_reducible refine Below.setCell ?_ ?_ _) | (with_reducible exact Nat.le_refl _) | omega | (simp only [World.size_alloc, World.size_setCell, World.size_drew, Wov_size, World.heap_drewN]; omega))))
        rw [R.out]
        first | rfl | (simp; done) | (simp; omega) | (simp_all; done)

theorem check1_any (b : Int) (h : fits64 b) : Pure Tryz.prog 128 #[.int .i64 b] (.bool (!mayB b)) := by
  intro w
  have V := may_any b h
  obtain ⟨s, hs⟩ : ∃ s, s = mayB b := ⟨_, rfl⟩
  rw [← hs] at V ⊢
  clear hs
  go_enter Tryz.func128, Tryz.ntmps128
  go_wp2_with (fail)
  refine (V _).mono ?_; rintro e w' ⟨rfl, p, rfl⟩
  go_wp2
  go_ret
  exact gives_bool rfl (by (repeat' (first | (with_reducible assumption) | (with_reducible exact Below.refl _ _) | (with_reducible refine below_wov ?_ ?_ _) | (with_reducible refine below_drewN ?_ _) | (with_reducible refine Below.drew ?_) | (with_reducible refine Below.alloc ?_ ?_ _) | (with_reducible refine Below.setCell ?_ ?_ _) | (with_reducible exact Nat.le_refl _) | omega | (simp only [World.size_alloc, World.size_setCell, World.size_drew, Wov_size, World.heap_drewN]; omega))))

/-- A slice's elements: numbers. -/
def SlP (W : World) (p : Option Addr) (N : Nat) (f : Nat → Int) : Prop := N = 0 ∨ ∃ B off, p = some ⟨B, off, none⟩ ∧ B < W.heap.size ∧ ∀ x, x < N → W.cell? ⟨B, off + x, none⟩ = some (.int .i64 (f x))
theorem SlP.wov {W : World} {p : Option Addr} {N : Nat} {f : Nat → Int} (h : SlP W p N f) (q : Gr) : SlP (Wov W q) p N f := by
  rcases h with h | ⟨B, off, h1, h2, h3⟩
  · exact .inl h
  · exact .inr ⟨B, off, h1, by rw [Wov_size]; omega, fun x hx => by rw [Wov_cell_past _ _ _ _ h2]; exact h3 x hx⟩

/-- The first place at which a bound may not be. -/
def badAt (f : Nat → Int) : Nat → Nat → Option Nat
  | 0, _ => none
  | k + 1, t => if mayB (f t) then badAt f k (t + 1) else some t
def allMay (N : Nat) (f : Nat → Int) : Bool := (List.range N).all fun x => mayB (f x)
theorem allMay_t {N : Nat} {f : Nat → Int} (h : ∀ x, x < N → mayB (f x) = true) : allMay N f = true := by
  unfold allMay; rw [List.all_eq_true]; intro x hx; exact h x (by simpa using hx)
theorem allMay_f {N t : Nat} {f : Nat → Int} (ht : t < N) (h : mayB (f t) = false) : allMay N f = false := by
  unfold allMay; rw [List.all_eq_false]; exact ⟨t, by simpa using ht, by simp [h]⟩

def idxPost (w : World) (N : Nat) (f : Nat → Int) (e : Ending) (w' : World) : Prop := ∃ i : Int, e = .returned (.int .i64 i) ∧ decide (0 ≤ i) = !allMay N f ∧ ∃ p, w' = Wov w p

set_option maxRecDepth 10000 in
set_option maxHeartbeats 1000000 in
theorem index_any (p : Option Addr) (N cap : Nat) (f : Nat → Int) (w : World) (hS : SlP w p N f) (hF : Fits N f) (hN : N ≤ 9223372036854775807) :
    Calls Tryz.prog 170 #[.slice p N cap, .func (.func 128) #[] #[]] w (idxPost w N f) := by
  go_enter Tryz.func170, Tryz.ntmps170
  go_wp2
  go_loopw [5, 8, 9, 10, 11, 12, 13, 14, 15, 16, 18] (fun _ i _ _ _ _ _ _ _ _ _ wr => ∃ t : Nat, t ≤ N ∧ i = .int .i64 t ∧ Hid (∀ x, x < t → mayB (f x) = true) ∧ ∃ q, wr = Wov w q)
    (fun _ i _ _ _ _ _ _ _ _ _ _ => N - (intOf i).toNat)
  case atStart => exact ⟨0, Nat.zero_le _, rfl, (fun x hx => by omega), ⟨#[], w.drawn⟩, (Wov_self w).symm⟩
  case round =>
    obtain ⟨t, ht, rfl, hpre, q, rfl⟩ := hrel
    by_cases hlt : t < N
    · obtain ⟨B, off, rfl, hB, hc⟩ : ∃ B off, p = some ⟨B, off, none⟩ ∧ B < w.heap.size ∧ ∀ x, x < N → w.cell? ⟨B, off + x, none⟩ = some (.int .i64 (f x)) := by
        rcases hS with h | h
        · omega
        · exact h
      have ct := hc t hlt
      have C := check1_any (f t) (hF t hlt)
      obtain ⟨v, hv⟩ : ∃ v, v = f t := ⟨_, rfl⟩
      rw [← hv] at ct C
      have HV := Lib.hid hv
      clear hv hc hF
      have HC := Lib.hid C
      clear C
      obtain ⟨b, hb⟩ : ∃ b, b = mayB v := ⟨_, rfl⟩
      rw [← hb] at HC
      have HB := Lib.hid hb
      clear hb
      go_wp2_with (fail)
      refine (HC.out _).mono ?_; rintro e w' ⟨rfl, q2, rfl⟩
      cases b
      · go_wp2
        go_ret
        exact ⟨t, rfl, by rw [allMay_f hlt (by rw [← HV.out, ← HB.out])]; simp, _, rfl⟩
      · go_wp2
        go_roundw
        case rel =>
          refine ⟨t + 1, hlt, by go_num, fun x hx => ?_, _, rfl⟩
          by_cases e : x = t
          · subst e; rw [← HV.out, ← HB.out]
          · exact hpre.out x (by omega)
        case measure => simp [intOf]; omega
    · have e : t = N := by omega
      subst e
      go_wp2
      go_ret
      exact ⟨-1, rfl, by rw [allMay_t hpre.out]; rfl, _, rfl⟩

set_option maxRecDepth 10000 in
set_option maxHeartbeats 400000 in
theorem contains_any (p : Option Addr) (N cap : Nat) (f : Nat → Int) (w : World) (hS : SlP w p N f) (hF : Fits N f) (hN : N ≤ 9223372036854775807) :
    Calls Tryz.prog 127 #[.slice p N cap, .func (.func 128) #[] #[]] w (Gives w (.bool (!allMay N f))) := by
  have I := Lib.hid (index_any p N cap f w hS hF hN)
  clear hS hF
  go_enter Tryz.func127, Tryz.ntmps127
  go_wp2_with (fail)
  refine I.out.mono ?_
  rintro e w' ⟨i, rfl, hi, q, rfl⟩
  have HI := Lib.hid hi
  clear hi
  go_wp2
  go_ret
  exact gives_bool HI.out (by (repeat' (first | (with_reducible assumption) | (with_reducible exact Below.refl _ _) | (with_reducible refine below_wov ?_ ?_ _) | (with_reducible refine below_drewN ?_ _) | (with_reducible refine Below.drew ?_) | (with_reducible refine Below.alloc ?_ ?_ _) | (with_reducible refine Below.setCell ?_ ?_ _) | (with_reducible exact Nat.le_refl _) | omega | (simp only [World.size_alloc, World.size_setCell, World.size_drew, Wov_size, World.heap_drewN]; omega))))
end Go.Proofs.YtpmpapenjcemjaaGreatDoor

namespace Go.Proofs.YtpmpapenjcemjaaGreatDoor
set_option linter.unusedSimpArgs false
set_option linter.unusedVariables false
open Go Go.RowKit Go.Shelf
attribute [local go_sem] Nat.add_assoc Nat.add_lt_add_iff_left lit_lt_add

theorem SlP.below {W W' : World} {p : Option Addr} {N : Nat} {f : Nat → Int} (h : SlP W p N f) (hb : Below W.heap.size W W') : SlP W' p N f := by
  obtain ⟨q, rfl⟩ := Wov_of_below hb
  exact h.wov q
/-- May a matrix be: n clocks, N bounds f? -/
def okD (n : Int) (N : Nat) (f : Nat → Int) : Bool := decide (1 ≤ n) && (decide (n ≤ 4) && (decide ((N : Int) = n * n) && allMay N f))

set_option maxRecDepth 10000 in
set_option maxHeartbeats 2000000 in
theorem dbmCheck_any (n : Int) (p : Option Addr) (N cap : Nat) (f : Nat → Int) (w : World) (hn : fits64 n) (hS : SlP w p N f) (hF : Fits N f) (hN : N ≤ 9223372036854775807) :
    Calls Tryz.prog 83 #[.agg #[.int .i64 n, .slice p N cap]] w (Gives w (.int .i64 (rcode (okD n N f)))) := by
  by_cases h1 : 1 ≤ n
  · by_cases h2 : n ≤ 4
    · obtain ⟨m, rfl⟩ : ∃ m : Nat, n = (m : Int) := ⟨n.toNat, by omega⟩
      obtain ⟨q, hq⟩ : ∃ q : Nat, (m : Int) * (m : Int) = (q : Int) := ⟨m * m, by simp⟩
      have hqm : q ≤ 4 * 4 := by
        have : m * m ≤ 4 * 4 := Nat.mul_le_mul (by omega) (by omega)
        have e : m * m = q := by exact_mod_cast hq
        omega
      by_cases h3 : N = q
      · subst h3
        have R : Hid (okD m N f = allMay N f) := by
          show _ = _
          simp [okD, hq, h1, h2]
        have C := Lib.hid (fun (w' : World) (hb : Below w.heap.size w w') => contains_any p N cap f w' (hS.below hb) hF hN)
        obtain ⟨b, hb⟩ : ∃ b, b = allMay N f := ⟨_, rfl⟩
        rw [← hb] at C R
        have h4 : ((N : Int) != (N : Int)) = false := by simp
        clear hb hS hF
        go_enter Tryz.func83, Tryz.ntmps83
        go_wp2_with (fail)
        refine (C.out _ (by (repeat' (first | (with_reducible assumption) | (with_reducible exact Below.refl _ _) | (with_reducible refine below_wov ?_ ?_ _) | (with_reducible refine below_drewN ?_ _) | (with_reducible refine Below.drew ?_) | (with_reducible refine Below.alloc ?_ ?_ _) | (with_reducible refine Below.setCell ?_ ?_ _) | (with_reducible exact Nat.le_refl _) | omega | (simp only [World.size_alloc, World.size_setCell, World.size_drew, Wov_size, World.heap_drewN]; omega))))).mono ?_; rintro e w' ⟨rfl, pq, rfl⟩
        cases b
        all_goals
          go_wp2
          go_ret
          exact gives_int (by rw [R.out]; rfl) (by (repeat' (first | (with_reducible assumption) | (with_reducible exact Below.refl _ _) | (with_reducible refine below_wov ?_ ?_ _) | (with_reducible refine below_drewN ?_ _) | (with_reducible refine Below.drew ?_) | (with_reducible refine Below.alloc ?_ ?_ _) | (with_reducible refine Below.setCell ?_ ?_ _) | (with_reducible exact Nat.le_refl _) | omega | (simp only [World.size_alloc, World.size_setCell, World.size_drew, Wov_size, World.heap_drewN]; omega))))
      · have R : Hid (okD m N f = false) := by
          show _ = _
          have : ¬ ((N : Int) = (m : Int) * (m : Int)) := by rw [hq]; omega
          simp [okD, this]
        have h4 : ((N : Int) != (q : Int)) = true := by rw [bne_iff_ne]; omega
        clear hS hF
        go_enter Tryz.func83, Tryz.ntmps83
        go_wp2
        all_goals
          go_ret
          exact gives_int (by rw [R.out]; rfl) (by (repeat' (first | (with_reducible assumption) | (with_reducible exact Below.refl _ _) | (with_reducible refine below_wov ?_ ?_ _) | (with_reducible refine below_drewN ?_ _) | (with_reducible refine Below.drew ?_) | (with_reducible refine Below.alloc ?_ ?_ _) | (with_reducible refine Below.setCell ?_ ?_ _) | (with_reducible exact Nat.le_refl _) | omega | (simp only [World.size_alloc, World.size_setCell, World.size_drew, Wov_size, World.heap_drewN]; omega))))
    · have R : Hid (okD n N f = false) := by show _ = _; simp [okD, h2]
      have h3 : 4 < n := by omega
      clear hS hF
      go_enter Tryz.func83, Tryz.ntmps83
      go_wp2
      all_goals
        go_ret
        exact gives_int (by rw [R.out]; rfl) (by (repeat' (first | (with_reducible assumption) | (with_reducible exact Below.refl _ _) | (with_reducible refine below_wov ?_ ?_ _) | (with_reducible refine below_drewN ?_ _) | (with_reducible refine Below.drew ?_) | (with_reducible refine Below.alloc ?_ ?_ _) | (with_reducible refine Below.setCell ?_ ?_ _) | (with_reducible exact Nat.le_refl _) | omega | (simp only [World.size_alloc, World.size_setCell, World.size_drew, Wov_size, World.heap_drewN]; omega))))
  · have R : Hid (okD n N f = false) := by show _ = _; simp [okD, h1]
    have h3 : n < 1 := by omega
    clear hS hF h1
    go_enter Tryz.func83, Tryz.ntmps83
    go_wp2
    all_goals
      go_ret
      exact gives_int (by rw [R.out]; rfl) (by (repeat' (first | (with_reducible assumption) | (with_reducible exact Below.refl _ _) | (with_reducible refine below_wov ?_ ?_ _) | (with_reducible refine below_drewN ?_ _) | (with_reducible refine Below.drew ?_) | (with_reducible refine Below.alloc ?_ ?_ _) | (with_reducible refine Below.setCell ?_ ?_ _) | (with_reducible exact Nat.le_refl _) | omega | (simp only [World.size_alloc, World.size_setCell, World.size_drew, Wov_size, World.heap_drewN]; omega))))

/-- Its cells hold numbers, and may be written: a slice of the call's own. -/
def OwnI (w W : World) (sl : Value) (N : Nat) (f : Nat → Int) : Prop := ∃ B cap, sl = .slice (some ⟨B, 0, none⟩) N cap ∧ w.heap.size ≤ B ∧ B < W.heap.size ∧ HoldsI W B N f

def cellsI (N : Nat) (f : Nat → Int) : List Value := (List.range N).map fun x => .int .i64 (f x)
theorem cellsI_len (N : Nat) (f : Nat → Int) : (cellsI N f).length = N := by simp [cellsI]
theorem cellsI_get {N x : Nat} {f : Nat → Int} (h : x < N) : (cellsI N f)[x]? = some (.int .i64 (f x)) := by simp [cellsI, h]
theorem cellsI_get' {N x : Nat} {f : Nat → Int} {u : Value} (h : (cellsI N f)[x]? = some u) : x < N ∧ u = .int .i64 (f x) := by
  have hx : x < N := by
    by_cases hx : x < N
    · exact hx
    · rw [List.getElem?_eq_none (by rw [cellsI_len]; omega)] at h; cases h
  rw [cellsI_get hx] at h
  exact ⟨hx, by cases h; rfl⟩
theorem cellsI_one {N : Nat} {f : Nat → Int} : ∀ u ∈ cellsI N f, u.oneCell' = true := by
  intro u hu
  simp [cellsI] at hu
  obtain ⟨x, _, rfl⟩ := hu
  rfl
theorem cellsI_succ (N : Nat) (f : Nat → Int) : cellsI (N + 1) f = cellsI N f ++ [.int .i64 (f N)] := by simp [cellsI, List.range_succ]
theorem cellsI_congr {N : Nat} {f g : Nat → Int} (h : ∀ x, x < N → f x = g x) : cellsI N f = cellsI N g := by
  unfold cellsI
  apply List.map_congr_left
  intro x hx
  rw [h x (by simpa using hx)]
theorem infoB : (Tryz.prog.info? 47).map (fun i => (i.zero, i.size, i.bytes)) = some (some (.int .i64 0), 1, 8) := by kernel_rfl

/-- A row of one's own that holds numbers. -/
theorem holds_of_row {W : World} {base e N : Nat} {v : Value} {f : Nat → Int} (h0 : 0 < N) (h : W.ownsRow base e 1 v N (cellsI N f)) : ∃ B cap, v = .slice (some ⟨B, 0, none⟩) N cap ∧ base ≤ B ∧ B < W.heap.size ∧ HoldsI W B N f := by
  obtain ⟨_, ⟨_, hn⟩ | ⟨g, cap, cur, rfl, hb, hg, h1, h2, h3, h4⟩⟩ := h
  · omega
  · refine ⟨g, cap, rfl, hb, (Array.getElem?_eq_some_iff.1 hg).1, fun x hx => ?_⟩
    have hc : cur[x]? = some (.int .i64 (f x)) := by
      have h5 := cellsI_get (f := f) hx
      rw [← h4, List.getElem?_take, if_pos (by omega)] at h5
      simpa using h5
    constructor
    · simp [World.cell?, hg, hc]
    · simp [World.frozen?, hg]

set_option maxRecDepth 10000 in
set_option maxHeartbeats 2000000 in
theorem clone_any (B off N cap : Nat) (f : Nat → Int) (w : World) (h0 : 0 < N) (hN : N ≤ 1000000) (hB : B < w.heap.size) (hc : ∀ x, x < N → w.cell? ⟨B, off + x, none⟩ = some (.int .i64 (f x))) :
    Calls Tryz.prog 163 #[.slice (some ⟨B, off, none⟩) N cap] w fun e W => ∃ sl, e = .returned sl ∧ OwnI w W sl N f ∧ ∃ p, W = Wov w p := by
  have A := Lib.hid hc
  clear hc
  obtain ⟨i0, hi, hz0, hz1, hz2⟩ := info_parts infoB
  have q22 : ∀ (w : World) (a : Option Addr) (n c n' c' : Nat), (binOp .eql 94 (.slice a n c) (.slice none n' c')).run Tryz.prog w = .ok (.bool a.isNone) w := fun w a n c n' c' => Lib.run_eql_slice_nil w _ _ a n c n' c' Tryz.underlying94
  go_enter Tryz.func163, Tryz.ntmps163
  go_wp2_with (at_builtin; refine wpList_append_own _ rfl _ _ 94 rfl w.heap.size 47 i0 (.int .i64 0) 1 8 Tryz.underlying94 hi hz0 hz1 hz2 rfl (by decide) _ _ _ rfl (World.ownsRow_made w #[] 0 (Nat.le_refl _) (Nat.zero_le _) (by simp)) ⟨B, off, none⟩ N cap (cellsI N f) rfl ?qc1 ?qc2 ?qc3 ?qc4 ?qc5 ?qc6 ?_)
  case qc1 => rw [cellsI_len, Nat.mul_one]
  case qc2 =>
    intro j u hj
    obtain ⟨hjN, rfl⟩ := cellsI_get' hj
    rw [Addr.add_lit]
    exact (World.cell?_alloc_lt _ _ _ hB).trans (A.out j hjN)
  case qc3 => exact cellsI_one
  case qc4 => rw [Nat.zero_add]; unfold maxLen; omega
  case qc5 => rw [Nat.zero_add]; omega
  case qc6 => simp
  intro v' w1 hown hgrow hnil
  obtain ⟨B2, cap2, rfl, h1, h2, h3⟩ := holds_of_row h0 hown
  have hB : Below w.heap.size w w1 := ((Below.refl _ w).alloc (Nat.le_refl _) _).grown hgrow (by simp) (by intro k hk; simp [Value.ownBlock] at hk; omega)
  clear hnil hown hgrow hi hz0 hz1 hz2
  go_wp2
  go_ret
  exact ⟨_, rfl, ⟨B2, cap2, rfl, h1, h2, h3⟩, Wov_of_below hB⟩
end Go.Proofs.YtpmpapenjcemjaaGreatDoor

namespace Go.Proofs.YtpmpapenjcemjaaGreatDoor
set_option linter.unusedSimpArgs false
set_option linter.unusedVariables false
open Go Go.RowKit Go.Shelf
attribute [local go_sem] Nat.add_assoc Nat.add_lt_add_iff_left lit_lt_add

/-- A slice of the call's own, or nil. -/
def OwnS (w W : World) (sl : Value) (N : Nat) (f : Nat → Int) : Prop := (N = 0 ∧ sl = .slice none 0 0) ∨ OwnI w W sl N f
/-- A slice that came in: nil, or its elements are numbers. -/
def InS (W : World) (p : Option Addr) (N cap : Nat) (f : Nat → Int) : Prop := (p = none ∧ N = 0 ∧ cap = 0) ∨ (0 < N ∧ ∃ B off, p = some ⟨B, off, none⟩ ∧ B < W.heap.size ∧ ∀ x, x < N → W.cell? ⟨B, off + x, none⟩ = some (.int .i64 (f x)))
theorem InS.slp {W : World} {p : Option Addr} {N cap : Nat} {f : Nat → Int} (h : InS W p N cap f) : SlP W p N f := by
  rcases h with ⟨_, h, _⟩ | ⟨_, h⟩
  · exact .inl h
  · exact .inr h

theorem clone_nil (w : World) :
    Calls Tryz.prog 163 #[.slice none 0 0] w fun e W => e = .returned (.slice none 0 0) ∧ ∃ p, W = Wov w p := by
  have q22 : ∀ (w : World) (a : Option Addr) (n c n' c' : Nat), (binOp .eql 94 (.slice a n c) (.slice none n' c')).run Tryz.prog w = .ok (.bool a.isNone) w := fun w a n c n' c' => Lib.run_eql_slice_nil w _ _ a n c n' c' Tryz.underlying94
  go_enter Tryz.func163, Tryz.ntmps163
  go_wp2
  go_ret
  exact ⟨rfl, ⟨#[], w.drawn⟩, (Wov_self w).symm⟩

def clonePost (w : World) (N : Nat) (f : Nat → Int) (e : Ending) (W : World) : Prop := ∃ p cap, e = .returned (.slice p N cap) ∧ OwnS w W (.slice p N cap) N f ∧ ∃ q, W = Wov w q
theorem clone_all (p : Option Addr) (N cap : Nat) (f : Nat → Int) (w : World) (hN : N ≤ 1000000) (hS : InS w p N cap f) :
    Calls Tryz.prog 163 #[.slice p N cap] w (clonePost w N f) := by
  rcases hS with ⟨rfl, rfl, rfl⟩ | ⟨h0, B, off, rfl, hB, hc⟩
  · refine (clone_nil w).mono ?_
    rintro e W ⟨rfl, hq⟩
    exact ⟨none, 0, rfl, .inl ⟨rfl, rfl⟩, hq⟩
  · refine (clone_any B off N cap f w h0 hN hB hc).mono ?_
    rintro e W ⟨sl, rfl, ho, hq⟩
    have ho' := ho
    obtain ⟨B2, cap2, rfl, _⟩ := ho'
    exact ⟨_, _, rfl, .inr ho, hq⟩

theorem OwnI.later {w w0 W : World} {sl : Value} {N : Nat} {f : Nat → Int} (h : OwnI w W sl N f) (hw : w0.heap.size ≤ w.heap.size) : OwnI w0 W sl N f := by
  obtain ⟨B, cap, h1, h2, h3, h4⟩ := h
  exact ⟨B, cap, h1, by omega, h3, h4⟩
theorem OwnS.later {w w0 W : World} {sl : Value} {N : Nat} {f : Nat → Int} (h : OwnS w W sl N f) (hw : w0.heap.size ≤ w.heap.size) : OwnS w0 W sl N f := h.imp id (fun h => h.later hw)
theorem OwnS.chg {w W W' : World} {sl : Value} {N B : Nat} {f : Nat → Int} (h : OwnS w W sl N f) (hs : B < w.heap.size) (hg : Chg W B W') : OwnS w W' sl N f := by
  rcases h with h | ⟨B2, cap, h1, h2, h3, h4⟩
  · exact .inl h
  · exact .inr ⟨B2, cap, h1, h2, Nat.lt_of_lt_of_le h3 hg.size, h4.of_block (hg.block B2 h3 (by omega))⟩
def twinPost (w : World) (n : Int) (N : Nat) (f : Nat → Int) (e : Ending) (W : World) : Prop := ∃ p cap, e = .returned (.agg #[.int .i64 n, .slice p N cap]) ∧ OwnS w W (.slice p N cap) N f ∧ ∃ q, W = Wov w q

set_option maxRecDepth 10000 in
set_option maxHeartbeats 2000000 in
theorem twin_any (n : Int) (p : Option Addr) (N cap : Nat) (f : Nat → Int) (w : World) (hN : N ≤ 1000000) (hS : InS w p N cap f) :
    Calls Tryz.prog 120 #[.agg #[.int .i64 n, .slice p N cap]] w (twinPost w n N f) := by
  have C : Hid (∀ w', Below w.heap.size w w' → Calls Tryz.prog 163 #[.slice p N cap] w' (clonePost w' N f)) := fun w' hb =>
    clone_all p N cap f w' hN (by
      rcases hS with h | ⟨h0, B, off, h1, h2, h3⟩
      · exact .inl h
      · exact .inr ⟨h0, B, off, h1, Nat.lt_of_lt_of_le h2 hb.size, fun x hx => (hb.cell (p := ⟨B, off + x, none⟩) h2).trans (h3 x hx)⟩)
  clear hS
  go_enter Tryz.func120, Tryz.ntmps120
  go_wp2_with (fail)
  refine wp_world (fun W => Below w.heap.size w W ∧ w.heap.size + 2 = W.heap.size ∧ W.cell? ⟨w.heap.size, 0, none⟩ = some (.int .i64 n) ∧ W.cell? ⟨w.heap.size, 1, none⟩ = some (.slice p N cap) ∧ (W.cell? ⟨w.heap.size + 1, 0, none⟩).isSome = true ∧ (W.cell? ⟨w.heap.size + 1, 1, none⟩).isSome = true ∧ W.frozen? ⟨w.heap.size + 1, 0, none⟩ = false ∧ W.frozen? ⟨w.heap.size + 1, 1, none⟩ = false) ⟨by (repeat' (first | (with_reducible assumption) | (with_reducible exact Below.refl _ _) | (with_reducible refine below_wov ?_ ?_ _) | (with_reducible refine below_drewN ?_ _) | (with_reducible refine Below.drew ?_) | (with_reducible refine Below.alloc ?_ ?_ _) | (with_reducible refine Below.setCell ?_ ?_ _) | (with_reducible exact Nat.le_refl _) | omega | (simp only [World.size_alloc, World.size_setCell, World.size_drew, Wov_size, World.heap_drewN]; omega))), by simp, by simp [go_sem], by simp [go_sem], by simp [go_sem], by simp [go_sem], by simp [go_sem], by simp [go_sem]⟩ ?_
  rintro W ⟨hB, hsz, f1, f2, f3, f4, f5, f6⟩
  obtain ⟨x3, f3'⟩ := Option.isSome_iff_exists.1 f3
  obtain ⟨x4, f4'⟩ := Option.isSome_iff_exists.1 f4
  have z1 : w.heap.size < W.heap.size := by omega
  have z2 : w.heap.size + 1 < W.heap.size := by omega
  have HZ := Lib.hid hsz
  clear f3 f4 hsz
  go_region_held3 (fun w' => w'.cell? ⟨w.heap.size, 0, none⟩ = some (.int .i64 n) ∧ w'.cell? ⟨w.heap.size, 1, none⟩ = some (.slice p N cap))
    ((simp [go_sem, *]))
    ((go_at_call 163; ((with_reducible refine (C.out _ (by (repeat' (first | (with_reducible assumption) | (with_reducible exact Below.refl _ _) | (with_reducible refine below_wov ?_ ?_ _) | (with_reducible refine below_drewN ?_ _) | (with_reducible refine Below.drew ?_) | (with_reducible refine Below.alloc ?_ ?_ _) | (with_reducible refine Below.setCell ?_ ?_ _) | (with_reducible exact Nat.le_refl _) | omega | (simp only [World.size_alloc, World.size_setCell, World.size_drew, Wov_size, World.heap_drewN]; omega))))).mono ?_); rintro e w' ⟨p2, cap2, rfl, ho, q, rfl⟩)))
  all_goals
    go_wp2
    refine bodyPost_ret (by simp [results, Tryz.results120, go_sem, f3', f4']; try rfl) rfl ?_
    refine ⟨p2, cap2, rfl, ?_, Wov_of_below (by (repeat' (first | (with_reducible assumption) | (with_reducible exact Below.refl _ _) | (with_reducible refine below_wov ?_ ?_ _) | (with_reducible refine below_drewN ?_ _) | (with_reducible refine Below.drew ?_) | (with_reducible refine Below.alloc ?_ ?_ _) | (with_reducible refine Below.setCell ?_ ?_ _) | (with_reducible exact Nat.le_refl _) | omega | (simp only [World.size_alloc, World.size_setCell, World.size_drew, Wov_size, World.heap_drewN]; omega))))⟩
    exact (ho.chg (B := w.heap.size + 1) (by have := HZ.out; simp; omega) ((Chg.set _ _ _ _).trans (Chg.set _ _ _ _))).later (by have := hB.size; simp; omega)
end Go.Proofs.YtpmpapenjcemjaaGreatDoor

namespace Go.Proofs.YtpmpapenjcemjaaGreatDoor
set_option linter.unusedSimpArgs false
set_option linter.unusedVariables false
open Go Go.RowKit Go.Shelf
attribute [local go_sem] Nat.add_assoc Nat.add_lt_add_iff_left lit_lt_add

/-- The diagonal: each must let 0 be; then it is 0. -/
def diagLoop (n : Nat) (f : Nat → Int) : Nat → Option (Nat → Int)
  | 0 => some f
  | t + 1 => match diagLoop n f t with
    | none => none
    | some g => if 1 ≤ g (t * n + t) then some (upd g (t * n + t) 1) else none
/-- The rounds by the first clocks. -/
def roundsI (n : Nat) (f : Nat → Int) : Nat → Option (Nat → Int)
  | 0 => some f
  | k + 1 => match roundsI n f k with
    | none => none
    | some a => if diagB n ((pairsAll n).foldl (stepP n k) a) then some ((pairsAll n).foldl (stepP n k) a) else none
def closeI (n : Nat) (f : Nat → Int) : Option (Nat → Int) := match diagLoop n f n with
  | none => none
  | some g => roundsI n g n
/-- The closed one, or the error. -/
def closeR (n : Int) (N : Nat) (f : Nat → Int) : Option (Nat → Int) × Int :=
  if okD n N f then (match closeI n.toNat f with
    | none => (none, 6)
    | some c => (some c, 0)) else (none, 8)
/-- A matrix as a result, or none. -/
def MatR (w : World) (n : Int) (N : Nat) (r : Option (Nat → Int) × Int) (e : Ending) (W : World) : Prop :=
  match r.1 with
  | none => e = .returned (.tuple #[.agg #[.int .i64 0, .slice none 0 0], .int .i64 r.2])
  | some c => ∃ B cap, e = .returned (.tuple #[.agg #[.int .i64 n, .slice (some ⟨B, 0, none⟩) N cap], .int .i64 r.2]) ∧ w.heap.size ≤ B ∧ B < W.heap.size ∧ HoldsI W B N c
def closePost (w : World) (n : Int) (N : Nat) (r : Option (Nat → Int) × Int) (e : Ending) (W : World) : Prop := MatR w n N r e W ∧ ∃ q, W = Wov w q

theorem diagLoop_stop {n : Nat} {f : Nat → Int} {t : Nat} (ht : diagLoop n f t = none) : ∀ d, diagLoop n f (t + d) = none
  | 0 => ht
  | d + 1 => by show (match diagLoop n f (t + d) with | none => none | some g => _) = none; rw [diagLoop_stop ht d]
theorem roundsI_stop {n : Nat} {f : Nat → Int} {t : Nat} (ht : roundsI n f t = none) : ∀ d, roundsI n f (t + d) = none
  | 0 => ht
  | d + 1 => by show (match roundsI n f (t + d) with | none => none | some a => _) = none; rw [roundsI_stop ht d]
theorem closeI_diag {n : Nat} {f g : Nat → Int} {t : Nat} (ht : t < n) (hg : diagLoop n f t = some g) (hv : g (t * n + t) < 1) : closeI n f = none := by
  have h1 : diagLoop n f (t + 1) = none := by
    show (match diagLoop n f t with | none => none | some g => _) = none
    rw [hg]
    exact if_neg (by omega)
  have h2 := diagLoop_stop h1 (n - (t + 1))
  rw [show t + 1 + (n - (t + 1)) = n by omega] at h2
  unfold closeI; rw [h2]
theorem closeI_round {n : Nat} {f g a : Nat → Int} {k : Nat} (hk : k < n) (hg : diagLoop n f n = some g) (ha : roundsI n g k = some a) (hv : diagB n ((pairsAll n).foldl (stepP n k) a) = false) : closeI n f = none := by
  have h1 : roundsI n g (k + 1) = none := by
    show (match roundsI n g k with | none => none | some a => _) = none
    rw [ha]
    simp [hv]
  have h2 := roundsI_stop h1 (n - (k + 1))
  rw [show k + 1 + (n - (k + 1)) = n by omega] at h2
  unfold closeI; rw [hg]; exact h2
theorem Fits.diag {n : Nat} {f : Nat → Int} (h : Fits (n * n) f) : ∀ t g, diagLoop n f t = some g → Fits (n * n) g
  | 0, g, e => by cases e; exact h
  | t + 1, g, e => by
    unfold diagLoop at e
    split at e
    · cases e
    · rename_i b hb
      split at e
      · cases e
        intro x hx
        unfold upd
        split
        · unfold fits64; omega
        · exact h.diag t b hb x hx
      · cases e
theorem Fits.fold {n k N : Nat} : ∀ (l : List (PairC n)) (f : Nat → Int), Fits N f → Fits N (l.foldl (stepP n k) f)
  | [], f, h => h
  | x :: l, f, h => Fits.fold l _ (h.step x)
theorem Fits.rounds {n : Nat} {f : Nat → Int} (h : Fits (n * n) f) : ∀ t g, roundsI n f t = some g → Fits (n * n) g
  | 0, g, e => by cases e; exact h
  | t + 1, g, e => by
    unfold roundsI at e
    split at e
    · cases e
    · rename_i b hb
      split at e
      · cases e
        exact Fits.fold _ _ (h.rounds t b hb)
      · cases e

theorem Chg.belowAt {W V : World} {B k : Nat} (h : Chg W B V) (hB : k ≤ B) (hk : k ≤ W.heap.size) : Below k W V := ⟨h.os, h.tape, h.output, h.size, fun j hj => h.block j (by omega) (by omega)⟩

set_option maxRecDepth 10000 in
set_option maxHeartbeats 4000000 in
theorem close_ok (n : Nat) (p : Option Addr) (cap : Nat) (f : Nat → Int) (w : World) (hS : InS w p (n * n) cap f) (hF : Fits (n * n) f) (hok : okD n (n * n) f = true) (hn0 : 1 ≤ n) (hn : n ≤ 4) :
    Calls Tryz.prog 74 #[.agg #[.int .i64 n, .slice p (n * n) cap]] w (closePost w n (n * n) (closeR n (n * n) f)) := by
  have hq0 : n * n ≤ 4 * 4 := Nat.mul_le_mul hn hn
  have hq1 : 1 * 1 ≤ n * n := Nat.mul_le_mul hn0 hn0
  have later : ∀ w', Below w.heap.size w w' → InS w' p (n * n) cap f := fun w' hb => by
    rcases hS with h | ⟨h0, B, off, h1, h2, h3⟩
    · exact .inl h
    · exact .inr ⟨h0, B, off, h1, Nat.lt_of_lt_of_le h2 hb.size, fun x hx => (hb.cell (p := ⟨B, off + x, none⟩) h2).trans (h3 x hx)⟩
  have CK : Hid (∀ w', Below w.heap.size w w' → Calls Tryz.prog 83 #[.agg #[.int .i64 n, .slice p (n * n) cap]] w' (Gives w' (.int .i64 0))) := fun w' hb => by
    have := dbmCheck_any n p (n * n) cap f w' (by unfold fits64; omega) (later w' hb).slp hF (by omega)
    rwa [hok] at this
  have TW : Hid (∀ w', Below w.heap.size w w' → Calls Tryz.prog 120 #[.agg #[.int .i64 n, .slice p (n * n) cap]] w' (twinPost w' n (n * n) f)) := fun w' hb => twin_any n p (n * n) cap f w' (by omega) (later w' hb)
  have R : Hid (closeR n (n * n) f = match closeI n f with | none => (none, 6) | some c => (some c, 0)) := by
    show _ = _
    simp only [closeR, hok]
    rfl
  clear hok hS later
  go_enter Tryz.func74, Tryz.ntmps74
  go_wp2_with (fail)
  refine (CK.out _ (by (repeat' (first | (with_reducible assumption) | (with_reducible exact Below.refl _ _) | (with_reducible refine below_wov ?_ ?_ _) | (with_reducible refine below_drewN ?_ _) | (with_reducible refine Below.drew ?_) | (with_reducible refine Below.alloc ?_ ?_ _) | (with_reducible refine Below.setCell ?_ ?_ _) | (with_reducible exact Nat.le_refl _) | omega | (simp only [World.size_alloc, World.size_setCell, World.size_drew, Wov_size, World.heap_drewN]; omega))))).mono ?_; rintro e w' ⟨rfl, p1, rfl⟩
  go_wp2_with (fail)
  refine (TW.out _ (by (repeat' (first | (with_reducible assumption) | (with_reducible exact Below.refl _ _) | (with_reducible refine below_wov ?_ ?_ _) | (with_reducible refine below_drewN ?_ _) | (with_reducible refine Below.drew ?_) | (with_reducible refine Below.alloc ?_ ?_ _) | (with_reducible refine Below.setCell ?_ ?_ _) | (with_reducible exact Nat.le_refl _) | omega | (simp only [World.size_alloc, World.size_setCell, World.size_drew, Wov_size, World.heap_drewN]; omega))))).mono ?_; rintro e w' ⟨p2, cap2, rfl, ho, p3, rfl⟩
  rcases ho with ⟨h, _⟩ | ⟨B, c, h1, hB1, hB2, hH⟩
  · omega
  simp only [Value.slice.injEq] at h1
  obtain ⟨rfl, _, rfl⟩ := h1
  go_wp2_with (fail)
  simp only [World.size_alloc, Wov_size] at hB1 hB2
  have hbw : w.heap.size + 2 ≤ B := by omega
  obtain ⟨M, hM⟩ : ∃ M, w.heap.size + (2 + (p1.bl.size + p3.bl.size)) = M := ⟨_, rfl⟩
  have hMB : B < M := by omega
  rw [hM]
  refine wp_world (fun W => Below w.heap.size w W ∧ M < W.heap.size ∧ HoldsI W B (n * n) f ∧ W.cell? ⟨M, 0, none⟩ = some (.int .i64 n) ∧ W.cell? ⟨M, 1, none⟩ = some (.slice (some ⟨B, 0, none⟩) (n * n) cap2) ∧ W.cell? ⟨w.heap.size + 1, 0, none⟩ = some (.int .i64 0) ∧ W.cell? ⟨w.heap.size + 1, 1, none⟩ = some (.slice none 0 0) ∧ W.frozen? ⟨w.heap.size + 1, 0, none⟩ = false ∧ W.frozen? ⟨w.heap.size + 1, 1, none⟩ = false)
    ⟨by (repeat' (first | (with_reducible assumption) | (with_reducible exact Below.refl _ _) | (with_reducible refine below_wov ?_ ?_ _) | (with_reducible refine below_drewN ?_ _) | (with_reducible refine Below.drew ?_) | (with_reducible refine Below.alloc ?_ ?_ _) | (with_reducible refine Below.setCell ?_ ?_ _) | (with_reducible exact Nat.le_refl _) | omega | (simp only [World.size_alloc, World.size_setCell, World.size_drew, Wov_size, World.heap_drewN]; omega))), by simp only [World.size_alloc, Wov_size, Array.size_append]; omega, ?_, ?_, ?_, by simp [go_sem], by simp [go_sem], by simp [go_sem], by simp [go_sem]⟩ ?_
  · rw [Wov_Wov] at hH
    exact hH.below ((Below.refl _ _).alloc (Nat.le_refl _) _) (by simp only [World.size_alloc, Wov_size, Array.size_append]; omega)
  · rw [← hM]; simp [go_sem]
  · rw [← hM]; simp [go_sem]
  rintro W ⟨hB, hMW, hHW, m0, m1, r0, r1, s0, s1⟩
  have HM := Lib.hid hM
  clear hH hB1 hB2 hM CK TW
  have hMne : M ≠ B := by omega
  have hRB : w.heap.size + 1 ≠ B := by omega
  have hRW : w.heap.size + 1 < W.heap.size := by omega
  have DN : ∀ wr m, Chg W B wr → Chg W B (wr.drewN m) := fun wr m h => h.trans (Chg.drewN _ _ _)
  have HDN := Lib.hid DN
  clear DN
  go_loopw [6, 23] (fun _ i wr => ∃ (t : Nat) (g : Nat → Int), t ≤ n ∧ i = .int .i64 t ∧ Hid (diagLoop n f t = some g) ∧ Chg W B wr ∧ HoldsI wr B (n * n) g)
    (fun _ i _ => n - (intOf i).toNat)
  case atStart => exact ⟨0, f, Nat.zero_le _, rfl, rfl, Chg.refl _ _, hHW⟩
  case round =>
    obtain ⟨t, g, ht, rfl, hd, hc, hH⟩ := hrel
    have c0 := (hc.cell (x := 0) hMW hMne).trans m0
    have c1 := (hc.cell (x := 1) hMW hMne).trans m1
    have y0 := (hc.cell (x := 0) hRW hRB).trans r0
    have y1 := (hc.cell (x := 1) hRW hRB).trans r1
    have y2 := (hc.frozen (x := 0) hRW hRB).trans s0
    have y3 := (hc.frozen (x := 1) hRW hRB).trans s1
    by_cases hlt : t < n
    · have pt := place_lt hlt hlt
      have ct := (hH (t * n + t) pt).1
      have cf := (hH (t * n + t) pt).2
      have AT : Hid (∀ m, Calls Tryz.prog 88 #[.pointer (some ⟨M, 0, none⟩), .int .i64 t, .int .i64 t] (wr.drewN m) fun e w' => e = .returned (.pointer (some ⟨B, t * n + t, none⟩)) ∧ ∃ m, w' = wr.drewN m) := fun m =>
        (at_any M B n t t (n * n) cap2 (wr.drewN m) hn (by omega) (by omega) pt (by omega) (by rw [World.cell?_drewN]; exact c0) (by rw [World.cell?_drewN]; exact c1)).mono fun e w' ⟨he, k, hk⟩ => ⟨he, _, hk.trans (World.drewN_drewN _ _ _)⟩
      obtain ⟨v, hv⟩ : ∃ v, v = g (t * n + t) := ⟨_, rfl⟩
      rw [← hv] at ct
      by_cases hv1 : v < 1
      · have R1 : Hid (closeR n (n * n) f = (none, 6)) := by
          show _ = _
          rw [R.out, closeI_diag hlt hd.out (by rw [← hv]; exact hv1)]
        clear R m0 m1 r0 r1 s0 s1 hv hHW
        go_wp2_with (fail)
        refine (AT.out 0).mono ?_; rintro e w' ⟨rfl, m, rfl⟩
        go_wp2
        refine bodyPost_ret (by simp [results, Tryz.results74, go_sem, y0, y1]; try rfl) rfl ?_
        refine ⟨?_, Wov_of_below ?_⟩
        · rw [R1.out]; rfl
        · exact hB.trans (((((HDN.out _ m hc).belowAt (by omega) hB.size).setCell (p := ⟨w.heap.size + 1, 0, none⟩) (by simp) _)).setCell (p := ⟨w.heap.size + 1, 1, none⟩) (by simp) _)
      · have hd' : Hid (diagLoop n f (t + 1) = some (upd g (t * n + t) 1)) := by
          show (match diagLoop n f t with | none => none | some g => _) = _
          rw [hd.out]
          exact if_pos (by omega)
        clear R m0 m1 r0 r1 s0 s1 hv hHW
        have hv2 : 1 ≤ v := by omega
        go_wp2_with (fail)
        refine (AT.out 0).mono ?_; rintro e w' ⟨rfl, m, rfl⟩
        go_wp2_with (fail)
        refine (AT.out m).mono ?_; rintro e w' ⟨rfl, m2, rfl⟩
        go_wp2
        go_roundw
        case rel => exact ⟨t + 1, _, hlt, by go_num, hd', (HDN.out _ _ hc).trans (Chg.set _ _ _ _), (hH.of_block rfl).set pt 1⟩
        case measure => simp [intOf]; omega
    · have e : t = n := by omega
      subst e
      clear c0 c1 y0 y1 y2 y3 ht hlt hHW
      have d0 := (hc.cell (x := 0) hMW hMne).trans m0
      go_wp2
      go_loopw [7, 45] (fun _ i wr => ∃ (k : Nat) (a : Nat → Int), k ≤ t ∧ i = .int .i64 k ∧ Hid (roundsI t g k = some a) ∧ Chg W B wr ∧ HoldsI wr B (t * t) a)
        (fun _ i _ => t - (intOf i).toNat)
      case atStart => exact ⟨0, g, Nat.zero_le _, rfl, rfl, hc, hH⟩
      case round =>
        clear hH hc d0
        obtain ⟨k, a, hk, rfl, ha, hc, hH⟩ := hrel
        have c0 := (hc.cell (x := 0) hMW hMne).trans m0
        have c1 := (hc.cell (x := 1) hMW hMne).trans m1
        have y0 := (hc.cell (x := 0) hRW hRB).trans r0
        have y1 := (hc.cell (x := 1) hRW hRB).trans r1
        have y2 := (hc.frozen (x := 0) hRW hRB).trans s0
        have y3 := (hc.frozen (x := 1) hRW hRB).trans s1
        have hsz := hc.size
        have hBb := hH.block_lt (by omega)
        by_cases hlt : k < t
        · have Fa : Fits (t * t) a := Fits.rounds (Fits.diag hF t g hd.out) k a ha.out
          have TH := Lib.hid (through_any M B t k cap2 a wr hn0 hn hlt (by omega) hMne hBb c0 c1 hH Fa)
          clear Fa hH
          obtain ⟨b, hb⟩ : ∃ b, b = diagB t ((pairsAll t).foldl (stepP t k) a) := ⟨_, rfl⟩
          rw [← hb] at TH
          have HB := Lib.hid hb
          clear hb
          go_wp2_with (fail)
          refine TH.out.mono ?_; rintro e W2 ⟨rfl, hc2, hH2⟩
          have e0 := (hc2.cell (x := 0) (b := w.heap.size + 1) (by omega) hRB).trans y0
          have e1 := (hc2.cell (x := 1) (b := w.heap.size + 1) (by omega) hRB).trans y1
          have e2 := (hc2.frozen (x := 0) (b := w.heap.size + 1) (by omega) hRB).trans y2
          have e3 := (hc2.frozen (x := 1) (b := w.heap.size + 1) (by omega) hRB).trans y3
          have hc3 := hc.trans hc2
          clear hc2 y0 y1 y2 y3 c0 c1 m0 m1 r0 r1 s0 s1
          cases b
          · have R1 : Hid (closeR t (t * t) f = (none, 6)) := by
              show _ = _
              rw [R.out, closeI_round hlt hd.out ha.out HB.out.symm]
            clear R HB hd ha
            go_wp2
            refine bodyPost_ret (by simp [results, Tryz.results74, go_sem, e0, e1]; try rfl) rfl ?_
            refine ⟨?_, Wov_of_below ?_⟩
            · rw [R1.out]; rfl
            · exact hB.trans (((hc3.belowAt (by omega) hB.size).setCell (p := ⟨w.heap.size + 1, 0, none⟩) (by simp) _).setCell (p := ⟨w.heap.size + 1, 1, none⟩) (by simp) _)
          · have ha2 : Hid (roundsI t g (k + 1) = some ((pairsAll t).foldl (stepP t k) a)) := by
              show (match roundsI t g k with | none => none | some a => _) = _
              rw [ha.out]
              simp only []
              rw [← HB.out]; rfl
            go_wp2
            go_roundw
            case rel => exact ⟨k + 1, _, hlt, by go_num, ha2, hc3, hH2⟩
            case measure => simp [intOf]; omega
        · have e : k = t := by omega
          subst e
          have R1 : Hid (closeR k (k * k) f = (some a, 0)) := by
            show _ = _
            rw [R.out, closeI, hd.out]
            simp only []
            rw [ha.out]
          clear R hd ha
          go_wp2
          refine bodyPost_ret (by simp [results, Tryz.results74, go_sem, y0, y1]; try rfl) rfl ?_
          refine ⟨?_, Wov_of_below ?_⟩
          · rw [R1.out]
            refine ⟨B, cap2, rfl, by omega, by simp [World.setCell]; omega, ?_⟩
            exact hH.of_block (((Chg.set wr (w.heap.size + 1) 0 _).trans (Chg.set _ (w.heap.size + 1) 1 _)).block B hBb (by omega))
          · exact hB.trans (((hc.belowAt (by omega) hB.size).setCell (p := ⟨w.heap.size + 1, 0, none⟩) (by simp) _).setCell (p := ⟨w.heap.size + 1, 1, none⟩) (by simp) _)

set_option maxRecDepth 10000 in
set_option maxHeartbeats 1000000 in
theorem close_bad (n : Int) (p : Option Addr) (N cap : Nat) (f : Nat → Int) (w : World) (hn : fits64 n) (hS : SlP w p N f) (hF : Fits N f) (hN : N ≤ 1000000) (hok : okD n N f = false) :
    Calls Tryz.prog 74 #[.agg #[.int .i64 n, .slice p N cap]] w (closePost w n N (closeR n N f)) := by
  have CK : Hid (∀ w', Below w.heap.size w w' → Calls Tryz.prog 83 #[.agg #[.int .i64 n, .slice p N cap]] w' (Gives w' (.int .i64 8))) := fun w' hb => by
    have := dbmCheck_any n p N cap f w' hn (hS.below hb) hF (by omega)
    rwa [hok] at this
  have R : Hid (closeR n N f = (none, 8)) := by
    show _ = _
    simp only [closeR, hok]
    rfl
  clear hok hS hF hN hn
  go_enter Tryz.func74, Tryz.ntmps74
  go_wp2_with (fail)
  refine (CK.out _ (by (repeat' (first | (with_reducible assumption) | (with_reducible exact Below.refl _ _) | (with_reducible refine below_wov ?_ ?_ _) | (with_reducible refine below_drewN ?_ _) | (with_reducible refine Below.drew ?_) | (with_reducible refine Below.alloc ?_ ?_ _) | (with_reducible refine Below.setCell ?_ ?_ _) | (with_reducible exact Nat.le_refl _) | omega | (simp only [World.size_alloc, World.size_setCell, World.size_drew, Wov_size, World.heap_drewN]; omega))))).mono ?_; rintro e w' ⟨rfl, p1, rfl⟩
  go_wp2
  go_returns
  refine ⟨?_, Wov_of_below (by (repeat' (first | (with_reducible assumption) | (with_reducible exact Below.refl _ _) | (with_reducible refine below_wov ?_ ?_ _) | (with_reducible refine below_drewN ?_ _) | (with_reducible refine Below.drew ?_) | (with_reducible refine Below.alloc ?_ ?_ _) | (with_reducible refine Below.setCell ?_ ?_ _) | (with_reducible exact Nat.le_refl _) | omega | (simp only [World.size_alloc, World.size_setCell, World.size_drew, Wov_size, World.heap_drewN]; omega))))⟩
  rw [R.out]; rfl

/-- Close, of every matrix. -/
theorem close_any (n : Int) (p : Option Addr) (N cap : Nat) (f : Nat → Int) (w : World) (hn : fits64 n) (hS : SlP w p N f) (hF : Fits N f) (hN : N ≤ 1000000) :
    Calls Tryz.prog 74 #[.agg #[.int .i64 n, .slice p N cap]] w (closePost w n N (closeR n N f)) := by
  cases hok : okD n N f
  · exact close_bad n p N cap f w hn hS hF hN hok
  · have h := hok
    simp only [okD, Bool.and_eq_true, decide_eq_true_eq] at h
    obtain ⟨h1, h2, h3, _⟩ := h
    obtain ⟨m, rfl⟩ : ∃ m : Nat, n = (m : Int) := ⟨n.toNat, by omega⟩
    have e : N = m * m := by exact_mod_cast h3
    subst e
    have hq1 : 1 * 1 ≤ m * m := Nat.mul_le_mul (by omega) (by omega)
    refine close_ok m p cap f w (.inr ⟨by omega, ?_⟩) hF hok (by omega) (by omega)
    rcases hS with h | h
    · omega
    · exact h
#print axioms close_any
end Go.Proofs.YtpmpapenjcemjaaGreatDoor
