/- Contracts of package dbm: (*matrix).at, pairs, and the iterator that pairs hands back. No condition but that the count of clocks is at most 4. -/
import Derived.Test.YtlcbpckinjkfeaaD2
namespace Go.Proofs.Ytlcbpckinjkfeaa
set_option linter.unusedSimpArgs false
set_option linter.unusedVariables false
open Go Go.RowKit Go.Shelf
attribute [local go_sem] Oper.semAt_some

set_option maxRecDepth 10000 in
set_option maxHeartbeats 400000 in
theorem at_off (M B off n i j N cap : Nat) (w : World) (hn : n ≤ 4) (hi : i ≤ 4) (hj : j ≤ 4) (hN : i * n + j < N) (hN2 : N ≤ 9223372036854775807)
    (c0 : w.cell? ⟨M, 0, none⟩ = some (.int .i64 n)) (c1 : w.cell? ⟨M, 1, none⟩ = some (.slice (some ⟨B, off, none⟩) N cap)) :
    Calls Try.prog 85 #[.pointer (some ⟨M, 0, none⟩), .int .i64 i, .int .i64 j] w fun e w' => e = .returned (.pointer (some ⟨B, off + (i * n + j), none⟩)) ∧ ∃ m, w' = w.drewN m := by
  have hq0 : i * n ≤ 4 * 4 := Nat.mul_le_mul hi hn
  obtain ⟨q, hq⟩ : ∃ q : Nat, q = i * n := ⟨_, rfl⟩
  rw [← hq] at hN hq0 ⊢
  have hm : (i : Int) * (n : Int) = (q : Int) := by rw [hq]; simp
  clear hq
  have h1 : ((q : Int) + (j : Int)).toNat = q + j := by omega
  have h2 : IntKind.i64.wrap ((q : Int) + (j : Int)) = (q : Int) + (j : Int) := by rw [IntKind.wrap_i64]; omega
  have h3 : IntKind.i64.wrap (q : Int) = (q : Int) := by rw [IntKind.wrap_i64]; omega
  have h4 : (0 : Int) ≤ (q : Int) + (j : Int) := by omega
  have h5 : (q : Int) + (j : Int) < (N : Int) := by omega
  go_enter Try.func85, Try.ntmps85
  go_wp2
  go_quiet (fail)
  go_wp2
  go_ret
  exact ⟨rfl, nq, rfl⟩
theorem at_any (M B n i j N cap : Nat) (w : World) (hn : n ≤ 4) (hi : i ≤ 4) (hj : j ≤ 4) (hN : i * n + j < N) (hN2 : N ≤ 9223372036854775807)
    (c0 : w.cell? ⟨M, 0, none⟩ = some (.int .i64 n)) (c1 : w.cell? ⟨M, 1, none⟩ = some (.slice (some ⟨B, 0, none⟩) N cap)) :
    Calls Try.prog 85 #[.pointer (some ⟨M, 0, none⟩), .int .i64 i, .int .i64 j] w fun e w' => e = .returned (.pointer (some ⟨B, i * n + j, none⟩)) ∧ ∃ m, w' = w.drewN m := by
  have := at_off M B 0 n i j N cap w hn hi hj hN hN2 c0 c1
  rwa [Nat.zero_add] at this

set_option maxHeartbeats 400000 in
theorem pairs_any (n : Int) (w : World) :
    Calls Try.prog 91 #[.int .i64 n] w fun e w' => e = .returned (.func (.func 144) #[] #[.pointer (some ⟨w.heap.size, 0, none⟩)]) ∧ w' = w.alloc (.cells #[.int .i64 n] 3) := by
  go_enter Try.func91, Try.ntmps91
  go_wp2
  go_ret
  exact ⟨rfl, rfl⟩

/-- A pair of clocks. -/
abbrev PairC (n : Nat) := { p : Nat × Nat // p.1 < n ∧ p.2 < n }
def pairAt (n k : Nat) (h : k < n * n) : PairC n := ⟨(k / n, k % n), by
  have hn : 0 < n := by rcases Nat.eq_zero_or_pos n with h0 | h0
                        · subst h0; omega
                        · exact h0
  exact ⟨Nat.div_lt_of_lt_mul h, Nat.mod_lt _ hn⟩⟩
/-- The first pairs, row by row. -/
def pairsUpto (n : Nat) : (k : Nat) → k ≤ n * n → List (PairC n)
  | 0, _ => []
  | k + 1, h => pairsUpto n k (by omega) ++ [pairAt n k (by omega)]
theorem pairsUpto_len (n : Nat) : ∀ k h, (pairsUpto n k h).length = k
  | 0, _ => rfl
  | k + 1, h => by simp [pairsUpto, pairsUpto_len n k]
def pairsAll (n : Nat) : List (PairC n) := pairsUpto n (n * n) (Nat.le_refl _)
def pairE {n : Nat} (x : PairC n) : Array Value := #[.int .i64 (x.1.1 : Int), .int .i64 (x.1.2 : Int)]
theorem pairE_at (n k : Nat) (h : k < n * n) : pairE (pairAt n k h) = #[.int .i64 ((k / n : Nat) : Int), .int .i64 ((k % n : Nat) : Int)] := rfl

theorem pairE_wr (n k : Nat) (h : k < n * n) : pairE (pairAt n k h) = #[.int .i64 ((k : Int) / (n : Int)), .int .i64 ((k : Int) % (n : Int))] := by
  rw [pairE_at]
  have a : ((k / n : Nat) : Int) = (k : Int) / (n : Int) := by simp
  have b : ((k % n : Nat) : Int) = (k : Int) % (n : Int) := by simp
  rw [← a, ← b]
theorem grown_drew (w : World) : w.grownBy w.drew none := ⟨rfl, rfl, rfl, Nat.le_refl _, fun _ _ _ => rfl⟩

/-- What a round over pairs keeps: the box of the count. -/
def KeepsBox (Bx : Nat) (v : Value) (A B : World) : Prop := A.cell? ⟨Bx, 0, none⟩ = some v → B.cell? ⟨Bx, 0, none⟩ = some v

set_option maxRecDepth 100000 in
set_option maxHeartbeats 2000000 in
theorem pairs1_in (n : Nat) (hn0 : 1 ≤ n) (hn : n ≤ 4) (r l Bx : Nat) (J Jx : List (PairC n) → World → Prop) (W : World) (hJ : AbidesFrom W.heap.size J)
    (hY : ∀ pre x W1, J pre W1 → pre.length < n * n → YieldAt Fence.wide (r - 1) Try.prog l (pairE x) W1 fun e W' =>
      (e = .returned (.bool true) ∧ J (pre ++ [x]) W' ∧ KeepsBox Bx (.int .i64 n) W1 W') ∨ (e = .returned (.bool false) ∧ Jx (pre ++ [x]) W'))
    (hB : W.cell? ⟨Bx, 0, none⟩ = some (.int .i64 n)) (h0 : J [] W) :
    CallsIn Fence.wide r Try.prog 144 #[.func (.yield l) #[] #[], .pointer (some ⟨Bx, 0, none⟩)] W fun e W' => (∃ v, e = .returned v) ∧
      ((∃ xs, xs = pairsAll n ∧ J xs W') ∨ (∃ pre, True ∧ Jx pre W')) := by
  refine callsIn_of_wp Try.func144 rfl trivial ?_ rfl
  simp only [Try.ntmps144, List.size_toArray, List.length_cons, List.length_nil, Nat.reduceAdd, Nat.reduceSub, Array.replicate_succ, Array.replicate_zero, List.push_toArray, List.append_toArray, List.nil_append, List.cons_append]
  have hq0 : n * n ≤ 4 * 4 := Nat.mul_le_mul hn hn
  obtain ⟨q, hq⟩ : ∃ q : Nat, q = n * n := ⟨_, rfl⟩
  have HQ := Lib.hid hq
  rw [← hq] at hq0
  have hm : (n : Int) * (n : Int) = (q : Int) := by rw [hq]; simp
  clear hq
  gi_wp2
  clear hm
  gi_loopw [3, 7] (fun _ i wr => ∃ (k : Nat) (hk : k ≤ n * n), i = .int .i64 k ∧ J (pairsUpto n k hk) wr ∧ wr.cell? ⟨Bx, 0, none⟩ = some (.int .i64 n))
    (fun _ i _ => q - (intOf i).toNat)
  case atStart => exact ⟨0, Nat.zero_le _, rfl, h0, hB⟩
  case round =>
    obtain ⟨k, hk, rfl, hJs, hBx⟩ := hrel
    by_cases hlt : k < n * n
    · have hkq : k < q := by rw [HQ.out]; exact hlt
      have hJd : J (pairsUpto n k hk) wr.drew := hJ _ wr wr.drew none hJs (grown_drew wr) (fun r e => by cases e)
      obtain ⟨fn, tmps, assign, body, hy, hR⟩ := hY _ (pairAt n k hlt) wr.drew hJd (by rw [pairsUpto_len]; exact hlt)
      rw [pairE_wr n k hlt] at hy
      have b1 : (0 : Int) ≤ (k : Int) / (n : Int) := Int.ediv_nonneg (by omega) (by omega)
      have b2 : (k : Int) / (n : Int) ≤ 1000 := by have := Int.ediv_le_self (a := (k : Int)) (n : Int) (by omega); omega
      have b4 : IntKind.i64.wrap ((k : Int) / (n : Int)) = (k : Int) / (n : Int) := by rw [IntKind.wrap_i64]; omega
      have b3 : (k : Int).tmod (n : Int) = (k : Int) % (n : Int) := Int.tmod_eq_emod_of_nonneg (by omega)
      have hR' : RoundIn Fence.wide (r - 1) Try.prog l fn tmps assign body wr.drew fun e W' => ∃ t, e = .returned (.bool t) ∧ Hid ((t = true ∧ J (pairsUpto n k hk ++ [pairAt n k hlt]) W' ∧ KeepsBox Bx (.int .i64 n) wr.drew W') ∨ (t = false ∧ Jx (pairsUpto n k hk ++ [pairAt n k hlt]) W')) :=
        hR.mono fun e W' he => by
          rcases he with ⟨he, h1, h2⟩ | ⟨he, h1⟩
          · exact ⟨true, he, .inl ⟨rfl, h1, h2⟩⟩
          · exact ⟨false, he, .inr ⟨rfl, h1⟩⟩
      clear hR
      gi_wp2
      have hmix : Try.prog.follows .mixedOrders = true := by kernel_rfl
      gi_region_with_o ((refine ⟨(fun h => by cases h), hR'.mono ?_⟩; rintro e W3 ⟨t, rfl, ht⟩))
      all_goals
        cases t
        · obtain hJx3 : Jx (pairsUpto n k hk ++ [pairAt n k hlt]) W3 := by
            rcases ht.out with ⟨h, _⟩ | ⟨_, h⟩
            · cases h
            · exact h
          clear ht
          gi_wp2
          refine bodyPost_ret (results_none rfl _ _ _) rfl ?_
          exact ⟨⟨_, rfl⟩, .inr ⟨_, trivial, hJx3⟩⟩
        · obtain ⟨hJ3, hk3⟩ : J (pairsUpto n k hk ++ [pairAt n k hlt]) W3 ∧ KeepsBox Bx (.int .i64 n) wr.drew W3 := by
            rcases ht.out with ⟨_, h⟩ | ⟨h, _⟩
            · exact h
            · cases h
          have hB3 := hk3 (by simpa using hBx)
          clear ht
          gi_wp2
          go_roundw
          case rel => exact ⟨k + 1, hlt, by go_num, hJ3, hB3⟩
          case measure => simp [intOf]; omega
    · have hkq : q ≤ k := by rw [HQ.out]; omega
      gi_wp2
      go_end0
      exact ⟨⟨_, rfl⟩, .inl ⟨_, rfl, by have e : k = n * n := by omega
                                        subst e; exact hJs⟩⟩

/-- The iterator that pairs hands back has its contract. -/
theorem pairs1_stops (n : Nat) (hn0 : 1 ≤ n) (hn : n ≤ 4) (r Bx : Nat) (w : World) (hBx : Bx < w.heap.size) (hB : w.cell? ⟨Bx, 0, none⟩ = some (.int .i64 n)) :
    SeqStopsK Fence.wide r Try.prog 144 #[.pointer (some ⟨Bx, 0, none⟩)] (pairE (n := n)) (KeepsBox Bx (.int .i64 n)) (fun xs => xs = pairsAll n) (fun _ => True) (n * n) w :=
  fun l J Jx W hW hJ _ hY h0 => pairs1_in n hn0 hn r l Bx J Jx W hJ hY ((hW.cell (p := ⟨Bx, 0, none⟩) hBx).trans hB) h0
theorem keepsBox_t {Bx : Nat} {v : Value} {A B C : World} (h : KeepsBox Bx v A B) (k : KeepsBox Bx v B C) : KeepsBox Bx v A C := fun hc => k (h hc)
theorem keepsBox_b {Bx : Nat} {v : Value} (W : World) (l : Nat) (o o' : Obj) (h : W.heap[l]? = some o) (ho : o.isCells = false) : KeepsBox Bx v W (W.putObj l o') := by
  intro hc
  refine (cell_kept hc (grownBy_putObj' W l o') (fun r e => by cases e; exact ⟨o, h, ho⟩))
end Go.Proofs.Ytlcbpckinjkfeaa
