/- strings.SplitSeq at a blank: contract; a loop over a text's parts. No condition but on size. -/
import Derived.Test.YtpmpapenjcemjaaGreatDoorU1
import Derived.Test.YtpmpapenjcemjaaGreatDoorMD
import Derived.Test.YtpmpapenjcemjaaGreatDoorZ0
import Derived.RangeFuncBox
import Derived.Sort.CutIn
namespace Go.Proofs.YtpmpapenjcemjaaGreatDoor
set_option linter.unusedSimpArgs false
set_option linter.unusedVariables false
open Go Go.RowKit Go.Shelf
attribute [local go_sem] Nat.add_assoc Nat.add_lt_add_iff_left lit_lt_add

/-- Three boxes: the rest of the text, what parts it, how much of that is kept. -/
structure Three (W : World) (A B C : Nat) (r : List UInt8) : Prop where
  a : Boxed W A 9 (.string (bs r))
  b : Boxed W B 9 (.string ⟨#[32]⟩)
  c : Boxed W C 3 (.int .i64 0)
theorem boxS_below {W V : World} {B : Nat} {t : TypeId} {v : Value} (h : Boxed W B t v) (hb : Below W.heap.size W V) : Boxed V B t v := (hb.block B h.lt).trans h
theorem Three.below {W V : World} {A B C : Nat} {r : List UInt8} (h : Three W A B C r) (hb : Below W.heap.size W V) : Three V A B C r := ⟨boxS_below h.a hb, boxS_below h.b hb, boxS_below h.c hb⟩
set_option maxRecDepth 10000 in
set_option maxHeartbeats 1000000 in
theorem splitSeq0_any (l : List UInt8) (w : World) : Calls Tryz.prog 66 #[.string (bs l), .string ⟨#[32]⟩, .int .i64 0] w (fun e W => ∃ A B C, e = .returned (.func (.func 106) #[] #[.pointer (some ⟨B, 0, none⟩), .pointer (some ⟨A, 0, none⟩), .pointer (some ⟨C, 0, none⟩)]) ∧ w.heap.size ≤ A ∧ w.heap.size ≤ B ∧ w.heap.size ≤ C ∧ A ≠ B ∧ A ≠ C ∧ Three W A B C l ∧ ∃ q, W = Wov w q) := by
  obtain ⟨S, hS⟩ : ∃ S, S = bs l := ⟨_, rfl⟩
  have HS := Lib.hid hS
  rw [← hS]
  clear hS
  go_enter Tryz.func66, Tryz.ntmps66
  go_wp2
  go_returns
  refine ⟨w.heap.size, w.heap.size + 1, w.heap.size + 2, rfl, by omega, by omega, by omega, by omega, by omega, ⟨?_, ?_, ?_⟩, Wov_of_below (by (repeat' (first | (with_reducible assumption) | (with_reducible exact Below.refl _ _) | (with_reducible refine below_wov ?_ ?_ _) | (with_reducible refine below_drewN ?_ _) | (with_reducible refine Below.drew ?_) | (with_reducible refine Below.alloc ?_ ?_ _) | (with_reducible refine Below.setCell ?_ ?_ _) | (with_reducible exact Nat.le_refl _) | omega | (simp only [World.size_alloc, World.size_setCell, World.size_drew, Wov_size, World.heap_drewN]; omega))))⟩
  · rw [← HS.out]
    exact boxS_below (Boxed.new w 9 (.string S)) (by (repeat' (first | (with_reducible assumption) | (with_reducible exact Below.refl _ _) | (with_reducible refine below_wov ?_ ?_ _) | (with_reducible refine below_drewN ?_ _) | (with_reducible refine Below.drew ?_) | (with_reducible refine Below.alloc ?_ ?_ _) | (with_reducible refine Below.setCell ?_ ?_ _) | (with_reducible exact Nat.le_refl _) | omega | (simp only [World.size_alloc, World.size_setCell, World.size_drew, Wov_size, World.heap_drewN]; omega))))
  · have := Boxed.new (w.alloc (.cells #[.string S] 9)) 9 (.string ⟨#[32]⟩)
    rw [World.size_alloc] at this
    exact boxS_below this (by (repeat' (first | (with_reducible assumption) | (with_reducible exact Below.refl _ _) | (with_reducible refine below_wov ?_ ?_ _) | (with_reducible refine below_drewN ?_ _) | (with_reducible refine Below.drew ?_) | (with_reducible refine Below.alloc ?_ ?_ _) | (with_reducible refine Below.setCell ?_ ?_ _) | (with_reducible exact Nat.le_refl _) | omega | (simp only [World.size_alloc, World.size_setCell, World.size_drew, Wov_size, World.heap_drewN]; omega))))
  · have := Boxed.new ((w.alloc (.cells #[.string S] 9)).alloc (.cells #[.string ⟨#[32]⟩] 9)) 3 (.int .i64 0)
    rw [World.size_alloc, World.size_alloc] at this
    exact this
set_option maxRecDepth 10000 in
set_option maxHeartbeats 1000000 in
theorem splitSeq_any (l : List UInt8) (w : World) : Calls Tryz.prog 33 #[.string (bs l), .string ⟨#[32]⟩] w (fun e W => ∃ A B C, e = .returned (.func (.func 106) #[] #[.pointer (some ⟨B, 0, none⟩), .pointer (some ⟨A, 0, none⟩), .pointer (some ⟨C, 0, none⟩)]) ∧ w.heap.size ≤ A ∧ w.heap.size ≤ B ∧ w.heap.size ≤ C ∧ A ≠ B ∧ A ≠ C ∧ Three W A B C l ∧ ∃ q, W = Wov w q) := by
  have SP := Lib.hid (splitSeq0_any l)
  obtain ⟨S, hS⟩ : ∃ S, S = bs l := ⟨_, rfl⟩
  rw [← hS] at SP ⊢
  clear hS
  go_enter Tryz.func33, Tryz.ntmps33
  go_wp2_with (fail)
  refine (SP.out _).mono ?_; rintro e w' ⟨A, B, C, rfl, a1, a2, a3, a4, a5, h3, q1, rfl⟩
  go_wp2_with (fail)
  go_returns
  exact ⟨A, B, C, rfl, a1, a2, a3, a4, a5, h3.below (by (repeat' (first | (with_reducible assumption) | (with_reducible exact Below.refl _ _) | (with_reducible refine below_wov ?_ ?_ _) | (with_reducible refine below_drewN ?_ _) | (with_reducible refine Below.drew ?_) | (with_reducible refine Below.alloc ?_ ?_ _) | (with_reducible refine Below.setCell ?_ ?_ _) | (with_reducible exact Nat.le_refl _) | omega | (simp only [World.size_alloc, World.size_setCell, World.size_drew, Wov_size, World.heap_drewN]; omega)))), Wov_of_below (by (repeat' (first | (with_reducible assumption) | (with_reducible exact Below.refl _ _) | (with_reducible refine below_wov ?_ ?_ _) | (with_reducible refine below_drewN ?_ _) | (with_reducible refine Below.drew ?_) | (with_reducible refine Below.alloc ?_ ?_ _) | (with_reducible refine Below.setCell ?_ ?_ _) | (with_reducible exact Nat.le_refl _) | omega | (simp only [World.size_alloc, World.size_setCell, World.size_drew, Wov_size, World.heap_drewN]; omega))))⟩

/-- A round leaves a block. -/
def KeepW (A : Nat) (W V : World) : Prop := V.heap[A]? = W.heap[A]? ∧ W.heap.size ≤ V.heap.size
theorem boxS_keep {W V : World} {A : Nat} {t : TypeId} {v : Value} (h : Boxed W A t v) (k : KeepW A W V) : Boxed V A t v := k.1.trans h
theorem boxS_chg {W V : World} {A B : Nat} {t : TypeId} {v : Value} (h : Boxed W B t v) (hc : Chg W A V) (hn : B ≠ A) : Boxed V B t v := (hc.block B h.lt hn).trans h

theorem wrap_n1 (n : Nat) (h : n ≤ 1100000) : wrap64 ((n : Int) + 1) = (n : Int) + 1 ∧ wrap64 (n : Int) = (n : Int) ∧ ((n : Int) + 1).toNat = n + 1 := ⟨wrap64_id (by omega) (by omega), wrap64_id (by omega) (by omega), by omega⟩
theorem split_mem_len {c : UInt8} {l x : List UInt8} (h : x ∈ splitB c l) : x.length ≤ l.length := by
  have key : ∀ (xs : List (List UInt8)) (x : List UInt8), x ∈ xs → x.length ≤ (Lib.join xs [c]).length := by
    intro xs
    induction xs with
    | nil => intro x h; cases h
    | cons y ys ih =>
      intro x h
      cases ys with
      | nil =>
        rw [join_single]
        rw [List.mem_singleton.1 h]; exact Nat.le_refl _
      | cons z zs =>
        rw [join_cons _ _ (by simp)]
        rcases List.mem_cons.1 h with rfl | h
        · simp
        · have := ih x h
          simp only [List.length_append]
          omega
  have := key _ x h
  rwa [split_join] at this
set_option maxRecDepth 100000 in
set_option maxHeartbeats 8000000 in
theorem split1_in (s : List UInt8) (hs : s.length ≤ 1100000) (l A B C : Nat) (J Jx : List (List UInt8) → World → Prop) (W : World) (hAB : A ≠ B) (hAC : A ≠ C)
    (hJ : ∀ p X Y, J p X → Chg X A Y → J p Y)
    (hY : ∀ pre x W1, J pre W1 → x ∈ splitB 32 s → pre.length < (splitB 32 s).length → YieldAt Fence.wide 1 Tryz.prog l #[.string (bs x)] W1 fun e W' =>
      (e = .returned (.bool true) ∧ J (pre ++ [x]) W' ∧ KeepW A W1 W' ∧ KeepW B W1 W' ∧ KeepW C W1 W') ∨ (e = .returned (.bool false) ∧ Jx (pre ++ [x]) W'))
    (hT : Three W A B C s) (h0 : J [] W) :
    CallsIn Fence.wide 2 Tryz.prog 106 #[.func (.yield l) #[] #[], .pointer (some ⟨B, 0, none⟩), .pointer (some ⟨A, 0, none⟩), .pointer (some ⟨C, 0, none⟩)] W fun e W' => (∃ v, e = .returned v) ∧
      (J (splitB 32 s) W' ∨ ∃ pre x rest, splitB 32 s = pre ++ x :: rest ∧ Jx (pre ++ [x]) W') := by
  refine callsIn_of_wp Tryz.func106 rfl trivial ?_ rfl
  simp only [Tryz.ntmps106, List.size_toArray, List.length_cons, List.length_nil, Nat.reduceAdd, Nat.reduceSub, Array.replicate_succ, Array.replicate_zero, List.push_toArray, List.append_toArray, List.nil_append, List.cons_append]
  have b0 := hT.b.cell
  have IXA := Lib.hid (fun r => strIndex_any r 32)
  have h32 : (ByteArray.mk #[32]).size = 1 := rfl
  gi_wp2_with (fail)
  gi_loopw [7] (fun _ wr => ∃ (r : List UInt8) (pre : List (List UInt8)), r.length ≤ 1100000 ∧ J pre wr ∧ Three wr A B C r ∧ Hid (pre ++ splitB 32 r = splitB 32 s))
    (fun _ wr => match wr.cell? ⟨A, 0, none⟩ with | some (.string b) => b.size | _ => 0)
  case atStart => exact ⟨s, [], hs, h0, hT, rfl⟩
  case round =>
    obtain ⟨r, pre, hr, hJs, hT3, hP⟩ := hrel
    clear b0
    have IX := Lib.hid (IXA.out r)
    have a0 := hT3.a.cell
    have b0 := hT3.b.cell
    have c0 := hT3.c.cell
    have hsz := bs_size r
    rcases split_step 32 r with ⟨hm, hsp⟩ | ⟨n, hm, hn, hsp⟩
    · rw [hm] at IX
      have hL : Hid (splitB 32 s = pre ++ [r]) := by show _ = _; rw [← hP.out, hsp]
      have hpl : pre.length < (splitB 32 s).length := by rw [hL.out]; simp
      have hmem : r ∈ splitB 32 s := by rw [hL.out]; simp
      obtain ⟨S, hS⟩ : ∃ S, S = bs r := ⟨_, rfl⟩
      rw [← hS] at IX a0 hsz
      have HS := Lib.hid hS
      clear hm hsp hP hS
      gi_upto_region 6 with (refine ⟨trivial, ?_⟩; gi_at_call 65; refine (callsIn_wide.2 (IX.out _)).mono ?_; rintro e w' ⟨rfl, q1, rfl⟩)
      refine wpIn_world (fun V => J pre V ∧ Three V A B C r) ⟨hJ _ _ _ hJs (Chg.of_below (by (repeat' (first | (with_reducible assumption) | (with_reducible exact Below.refl _ _) | (with_reducible refine below_wov ?_ ?_ _) | (with_reducible refine below_drewN ?_ _) | (with_reducible refine Below.drew ?_) | (with_reducible refine Below.alloc ?_ ?_ _) | (with_reducible refine Below.setCell ?_ ?_ _) | (with_reducible exact Nat.le_refl _) | omega | (simp only [World.size_alloc, World.size_setCell, World.size_drew, Wov_size, World.heap_drewN]; omega))))), hT3.below (by (repeat' (first | (with_reducible assumption) | (with_reducible exact Below.refl _ _) | (with_reducible refine below_wov ?_ ?_ _) | (with_reducible refine below_drewN ?_ _) | (with_reducible refine Below.drew ?_) | (with_reducible refine Below.alloc ?_ ?_ _) | (with_reducible refine Below.setCell ?_ ?_ _) | (with_reducible exact Nat.le_refl _) | omega | (simp only [World.size_alloc, World.size_setCell, World.size_drew, Wov_size, World.heap_drewN]; omega))))⟩ ?_
      clear a0 b0 c0 hJs hT3 IX
      rintro V2 ⟨hJ2, hT2⟩
      have a0 := hT2.a.cell
      rw [← HS.out] at a0
      obtain ⟨fn, tmps, assign, body, hy, hR⟩ := hY pre r V2 hJ2 hmem hpl
      rw [← HS.out] at hy
      have hR' : RoundIn Fence.wide 1 Tryz.prog l fn tmps assign body V2 fun e W' => ∃ t, e = .returned (.bool t) ∧ Hid ((t = true ∧ J (pre ++ [r]) W') ∨ (t = false ∧ Jx (pre ++ [r]) W')) := hR.mono fun e W' he => by
        rcases he with ⟨he, h1, _⟩ | ⟨he, h1⟩
        · exact ⟨true, he, .inl ⟨rfl, h1⟩⟩
        · exact ⟨false, he, .inr ⟨rfl, h1⟩⟩
      clear hR hT2 hJ2
      gi_wp2_with (fail)
      refine hR'.mono ?_
      rintro e W3 ⟨tt, rfl, htt⟩
      gi_wp2
      refine bodyPost_end (results_none rfl _ _ _) rfl ?_
      refine ⟨⟨_, rfl⟩, ?_⟩
      rcases htt.out with ⟨_, h⟩ | ⟨_, h⟩
      · left; rw [hL.out]; exact h
      · exact .inr ⟨pre, r, [], hL.out, h⟩
    · rw [hm] at IX
      obtain ⟨T, hT'⟩ : ∃ T, T = r.take n := ⟨_, rfl⟩
      obtain ⟨D, hD⟩ : ∃ D, D = r.drop (n + 1) := ⟨_, rfl⟩
      have hL : Hid (splitB 32 s = pre ++ T :: splitB 32 D) := by show _ = _; rw [← hP.out, hsp, hT', hD]
      have hpl : pre.length < (splitB 32 s).length := by rw [hL.out]; simp
      have hmem : T ∈ splitB 32 s := by rw [hL.out]; simp
      have e1 : (bs r).extract 0 n = bs T := by rw [Lib.extract_eq, bs_list, hT']; simp
      have e2 : (bs r).extract (n + 1) (bs r).size = bs D := by
        rw [Lib.extract_eq, bs_list, bs_size, hD]
        congr 2
        rw [List.take_of_length_le (by rw [List.length_drop]; omega)]
      have hDl : D.length < r.length := by rw [hD, List.length_drop]; omega
      obtain ⟨S, hS⟩ : ∃ S, S = bs r := ⟨_, rfl⟩
      rw [← hS] at IX a0 hsz e1 e2
      have n0 : (0 : Int) ≤ (n : Int) := by omega
      have k1 : n ≤ S.size := by omega
      have k2 : n + 1 ≤ S.size := by omega
      have k3 : 1 + n ≤ S.size := by omega
      have k4 : n < S.size := by omega
      have k5 : ¬ S.size < n + 1 := by omega
      have k6 : (n : Int) ≤ (S.size : Int) := by omega
      have k7 : (n : Int) + 1 ≤ (S.size : Int) := by omega
      have k8 : ¬ (n : Int) < 0 := by omega
      have k9 : decide ((n : Int) < 0) = false := decide_eq_false (by omega)
      have e3 : S.extract (1 + n) S.size = bs D := by rw [Nat.add_comm 1 n]; exact e2
      obtain ⟨w1, w0, t1⟩ := wrap_n1 n (by omega)
      have Hsz := Lib.hid hsz
      have HS := Lib.hid hS
      have HA0 := Lib.hid a0
      clear hm hsp hP hT' hD hsz hS
      gi_upto_region 6 with (refine ⟨trivial, ?_⟩; gi_at_call 65; refine (callsIn_wide.2 (IX.out _)).mono ?_; rintro e w' ⟨rfl, q1, rfl⟩)
      refine wpIn_world (fun V => J pre V ∧ Three V A B C r) ⟨hJ _ _ _ hJs (Chg.of_below (by (repeat' (first | (with_reducible assumption) | (with_reducible exact Below.refl _ _) | (with_reducible refine below_wov ?_ ?_ _) | (with_reducible refine below_drewN ?_ _) | (with_reducible refine Below.drew ?_) | (with_reducible refine Below.alloc ?_ ?_ _) | (with_reducible refine Below.setCell ?_ ?_ _) | (with_reducible exact Nat.le_refl _) | omega | (simp only [World.size_alloc, World.size_setCell, World.size_drew, Wov_size, World.heap_drewN]; omega))))), hT3.below (by (repeat' (first | (with_reducible assumption) | (with_reducible exact Below.refl _ _) | (with_reducible refine below_wov ?_ ?_ _) | (with_reducible refine below_drewN ?_ _) | (with_reducible refine Below.drew ?_) | (with_reducible refine Below.alloc ?_ ?_ _) | (with_reducible refine Below.setCell ?_ ?_ _) | (with_reducible exact Nat.le_refl _) | omega | (simp only [World.size_alloc, World.size_setCell, World.size_drew, Wov_size, World.heap_drewN]; omega))))⟩ ?_
      clear a0 b0 c0 hJs hT3 IX
      rintro V2 ⟨hJ2, hT2⟩
      have a0 := hT2.a.cell
      have c0 := hT2.c.cell
      rw [← HS.out] at a0
      obtain ⟨fn, tmps, assign, body, hy, hR⟩ := hY pre T V2 hJ2 hmem hpl
      have hR' : RoundIn Fence.wide 1 Tryz.prog l fn tmps assign body V2 fun e W' => ∃ t, e = .returned (.bool t) ∧ Hid ((t = true ∧ J (pre ++ [T]) W' ∧ KeepW A V2 W' ∧ KeepW B V2 W' ∧ KeepW C V2 W') ∨ (t = false ∧ Jx (pre ++ [T]) W')) := hR.mono fun e W' he => by
        rcases he with ⟨he, h1⟩ | ⟨he, h1⟩
        · exact ⟨true, he, .inl ⟨rfl, h1⟩⟩
        · exact ⟨false, he, .inr ⟨rfl, h1⟩⟩
      have HT2 := Lib.hid hT2
      clear hR hT2 hJ2
      gi_wp2_with (fail)
      refine hR'.mono ?_
      rintro e W3 ⟨tt, rfl, htt⟩
      cases tt
      · skip
        obtain hJx3 : Jx (pre ++ [T]) W3 := by
          rcases htt.out with ⟨h, _⟩ | ⟨_, h⟩
          · cases h
          · exact h
        clear htt
        gi_wp2
        refine bodyPost_ret (results_none rfl _ _ _) rfl ?_
        exact ⟨⟨_, rfl⟩, .inr ⟨pre, T, _, hL.out, hJx3⟩⟩
      · skip
        obtain ⟨hJ3, hkA, hkB, hkC⟩ : J (pre ++ [T]) W3 ∧ KeepW A V2 W3 ∧ KeepW B V2 W3 ∧ KeepW C V2 W3 := by
          rcases htt.out with ⟨_, h⟩ | ⟨h, _⟩
          · exact h
          · cases h
        have hA3 := boxS_keep HT2.out.a hkA
        have hB3 := boxS_keep HT2.out.b hkB
        have hC3 := boxS_keep HT2.out.c hkC
        rw [← HS.out] at hA3
        have HA3 := Lib.hid hA3
        have HB3 := Lib.hid hB3
        have HC3 := Lib.hid hC3
        have a1 := hA3.cell
        have f1 := hA3.frozen
        have l1 := hA3.lt
        have b1 := hB3.cell
        have HJ3 := Lib.hid hJ3
        clear htt hkA hkB hkC hA3 hB3 hC3 a0 c0 hy hR' hJ3
        gi_wp2_with (fail)
        refine ⟨⟨D, pre ++ [T], by omega, hJ _ _ _ HJ3.out (Chg.set _ _ _ _), ⟨HA3.out.set _, boxS_chg HB3.out (Chg.set _ _ _ _) (Ne.symm hAB), boxS_chg HC3.out (Chg.set _ _ _ _) (Ne.symm hAC)⟩, ?_⟩, ?_⟩
        · show _ = _
          rw [hL.out, List.append_assoc]; rfl
        · rw [(HA3.out.set _).cell, HA0.out]
          have := Hsz.out
          simp [bs_size]; omega
#print axioms split1_in
/-- What the loop's own book-keeping and the iterator may turn: block A, and what is no cells from block n on. -/
structure TurnS (n A : Nat) (W V : World) : Prop where
  os : V.os = W.os
  tape : V.tape = W.tape
  output : V.output = W.output
  size : W.heap.size ≤ V.heap.size
  block : ∀ k, k < W.heap.size → k ≠ A → (n ≤ k → ∀ o, W.heap[k]? = some o → o.isCells = true) → V.heap[k]? = W.heap[k]?
theorem TurnS.of_chg {n A : Nat} {W V : World} (h : Chg W A V) : TurnS n A W V := ⟨h.os, h.tape, h.output, h.size, fun k hk hA _ => h.block k hk hA⟩
theorem TurnS.put {n A l : Nat} {W : World} {o : Obj} (o' : Obj) (hn : n ≤ l) (hl : W.heap[l]? = some o) (ho : o.isCells = false) : TurnS n A W (W.putObj l o') :=
  ⟨rfl, rfl, rfl, by simp, fun k hk hA hc => World.putObj_heap_other fun e => by
    subst e
    have := hc hn o hl
    rw [ho] at this; cases this⟩
def encS (x : List UInt8) : Array Value := #[.string (bs x)]
set_option maxRecDepth 10000 in
set_option maxHeartbeats 1000000 in
theorem wpIn_split {g : Operand} {ps : Array Tmp} {assign body : Code} {Q : Exit → Act → World → Prop} {a : Act} {w : World} {A B C : Nat} {s : List UInt8} (hs : s.length ≤ 1100000) (hps : ps.size = 1) (hAB : A ≠ B) (hAC : A ≠ C)
    (hg : a.eval g = .func (.func 106) #[] #[.pointer (some ⟨B, 0, none⟩), .pointer (some ⟨A, 0, none⟩), .pointer (some ⟨C, 0, none⟩)]) (hT : Three w A B C s)
    (I Ix : List (List UInt8) → World → Prop) (hI : ∀ s W V, I s W → TurnS w.heap.size A W V → I s V) (hIx : ∀ s W V, Ix s W → TurnS w.heap.size A W V → Ix s V) (h0 : I [] w) (a₁ : List UInt8 → Act)
    (hassign : ∀ (l : Nat) (x : List UInt8) (W : World) (K : Act → World → Prop), K (a₁ x) W →
      assign.wpIn (Fence.wide.inRound l) 1 Tryz.prog (Exit.then K (fun _ _ _ => False)) { tmps := (ps.zip (encS x)).foldl (fun t (p, v) => t.setIfInBounds p v) a.tmps, defers := [] } W)
    (hbody : ∀ (l : Nat) (pre : List (List UInt8)) (x : List UInt8) (W : World), I pre W → x ∈ splitB 32 s → pre.length < (splitB 32 s).length → A < W.heap.size → B < W.heap.size → C < W.heap.size → body.wpIn (Fence.wide.inRound l) 1 Tryz.prog
      (fun e _ W' => (e = .normal ∧ KeepsOthers W W' ∧ KeepW A W W' ∧ KeepW B W W' ∧ KeepW C W W' ∧ I (pre ++ [x]) W') ∨ (e = .ret ∧ KeepsOthers W W' ∧ Ix (pre ++ [x]) W')) (a₁ x) W)
    (hdone : ∀ (D : Nat) (W : World), w.heap.size ≤ D → I (splitB 32 s) W → W.heap[D]? = some (.deferred (some [])) → Q .normal { a with defers := { target := .collected D, args := #[] } :: a.defers } W)
    (hstop : ∀ (D : Nat) (pre : List (List UInt8)) (x : List UInt8) (rest : List (List UInt8)) (W : World), w.heap.size ≤ D → splitB 32 s = pre ++ x :: rest → Ix (pre ++ [x]) W → W.heap[D]? = some (.deferred (some [])) → Code.ret.wpIn Fence.wide 3 Tryz.prog Q { a with defers := { target := .collected D, args := #[] } :: a.defers } W) :
    (Code.rangeFunc g ps assign body).wpIn Fence.wide 3 Tryz.prog Q a w := by
  refine wpIn_rangeFunc fun fn hfn => ?_
  have hAw : A < w.heap.size := hT.a.lt
  have hBw : B < w.heap.size := hT.b.lt
  have hCw : C < w.heap.size := hT.c.lt
  obtain ⟨L, hL⟩ : ∃ L : LoopState → Option Code → Obj, L = fun st pe => .loop { state := st, pending := pe, fn, tmps := a.tmps, params := ps, assign, body, defers := w.heap.size } := ⟨_, rfl⟩
  have Ln : ∀ st pe, (L st pe).isCells = false := fun st pe => by rw [hL]; rfl
  obtain ⟨V, hV⟩ : ∃ V, (w.alloc (.deferred (some []))).alloc (L .ready none) = V := ⟨_, rfl⟩
  have hsz : V.heap.size = w.heap.size + 2 := by rw [← hV]; simp
  have l1 : V.heap[w.heap.size + 1]? = some (L .ready none) := by
    rw [← hV]; have := World.alloc_heap_new (w.alloc (.deferred (some []))) (L .ready none); rwa [World.size_alloc] at this
  have d1 : V.heap[w.heap.size]? = some (.deferred (some [])) := by
    rw [← hV]; exact (Below.heap_alloc _ _ _ (by simp)).trans (World.alloc_heap_new w _)
  have cV : Chg w A V := by rw [← hV]; exact (Chg.alloc _ _ _).trans (Chg.alloc _ _ _)
  have bV : Below w.heap.size w V := by rw [← hV]; exact ((Below.refl _ w).alloc (Nat.le_refl _) _).alloc (by simp) _
  refine ⟨w.heap.size + 1, [{ target := .collected w.heap.size, args := #[] }], V, { target := .fn (.func 106) #[.pointer (some ⟨B, 0, none⟩), .pointer (some ⟨A, 0, none⟩), .pointer (some ⟨C, 0, none⟩)], args := #[.func (.yield (w.heap.size + 1)) #[] #[]] }, V, 106,
    #[.func (.yield (w.heap.size + 1)) #[] #[], .pointer (some ⟨B, 0, none⟩), .pointer (some ⟨A, 0, none⟩), .pointer (some ⟨C, 0, none⟩)], V, ?_, ?_, ?_, ?_, fun h => by simp [Fence.wide] at h, ?_⟩
  · rw [← hV, hL]; exact run_enterLoop_outer _ _ _ _ _
  · simp only [resolve, hg]
    simp [go_sem]
  · intro f' _; trivial
  · have eg := enters_of (P := Tryz.prog) Tryz.func106 (by kernel_rfl) rfl
    simp [invoke, go_sem, eg]
  have cl : ∀ {W X : World} {st : LoopState} {pe : Option Code}, Chg W A X → W.heap[w.heap.size + 1]? = some (L st pe) → X.heap[w.heap.size + 1]? = some (L st pe) := fun hc hl =>
    (hc.block _ (Array.getElem?_eq_some_iff.1 hl).1 (by omega)).trans hl
  have cd : ∀ {W X : World}, Chg W A X → W.heap[w.heap.size]? = some (.deferred (some [])) → X.heap[w.heap.size]? = some (.deferred (some [])) := fun hc hl =>
    (hc.block _ (Array.getElem?_eq_some_iff.1 hl).1 (by omega)).trans hl
  refine (split1_in s hs (w.heap.size + 1) A B C
    (fun s W => I s W ∧ w.heap.size ≤ W.heap.size ∧ W.heap[w.heap.size + 1]? = some (L .ready none) ∧ W.heap[w.heap.size]? = some (.deferred (some [])))
    (fun s W => Ix s W ∧ W.heap[w.heap.size + 1]? = some (L .done (some .ret)) ∧ W.heap[w.heap.size]? = some (.deferred (some []))) V hAB hAC
    (fun s X Y h hc => ⟨hI s X Y h.1 (.of_chg hc), Nat.le_trans h.2.1 hc.size, cl hc h.2.2.1, cd hc h.2.2.2⟩) ?_ (hT.below bV) ⟨hI [] w V h0 (.of_chg cV), by omega, l1, d1⟩).mono ?_
  · rintro pre x W ⟨hi, hsW, hl, hk⟩ hx hlen
    have hlt : w.heap.size + 1 < W.heap.size := (Array.getElem?_eq_some_iff.1 hl).1
    have hl' := hl
    rw [hL] at hl'
    have hy := run_yield (P := Tryz.prog) (args := encS x) hl' (by rw [hps]; rfl)
    obtain ⟨X, hX⟩ : ∃ X, W.putObj (w.heap.size + 1) (L .busy none) = X := ⟨_, rfl⟩
    have xs : X.heap.size = W.heap.size := by rw [← hX]; simp
    have xl : X.heap[w.heap.size + 1]? = some (L .busy none) := by rw [← hX]; exact World.putObj_heap_same hlt
    have xd : X.heap[w.heap.size]? = some (.deferred (some [])) := by rw [← hX]; exact (World.putObj_heap_other (by omega)).trans hk
    have xt : TurnS w.heap.size A W X := by rw [← hX]; exact .put _ (by omega) hl (Ln _ _)
    have xk : ∀ k, k < w.heap.size → X.heap[k]? = W.heap[k]? := fun k hk => by rw [← hX]; exact World.putObj_heap_other (by omega)
    refine ⟨fn, _, assign, body, hy, roundIn_of_wpIn hfn (hassign _ x W _ ?_)⟩
    refine ⟨X, ?_, ?_⟩
    · rw [← hX, hL]; exact run_beginRound hl' rfl
    refine wpIn_mono (hbody _ pre x X (hI _ _ _ hi xt) hx hlen (by omega) (by omega) (by omega)) ?_
    have fin : ∀ (jump : Option Code) (Y : World), KeepsOthers X Y →
        (Instr.endRound (w.heap.size + 1) jump).run Tryz.prog Y = .ok (.bool jump.isNone) (Y.putObj (w.heap.size + 1) (L (if jump.isNone then .ready else .done) jump)) ∧ Y.heap[w.heap.size + 1]? = some (L .busy none) ∧ Y.heap[w.heap.size]? = some (.deferred (some [])) := fun jump Y hY => by
      have y1 := hY.same _ _ xl (Ln _ _)
      refine ⟨?_, y1, hY.same _ _ xd rfl⟩
      rw [hL] at y1 ⊢
      exact run_endRound jump y1
    rintro e a3 Y (⟨rfl, hY, hka, hkb, hkc, hi'⟩ | ⟨rfl, hY, hi'⟩)
    · obtain ⟨hr, y1, y2⟩ := fin none Y hY
      have ylt := (Array.getElem?_eq_some_iff.1 y1).1
      have kk : ∀ k, k < w.heap.size → KeepW k X Y → KeepW k W (Y.putObj (w.heap.size + 1) (L .ready none)) := fun k hk h => ⟨((World.putObj_heap_other (by omega)).trans h.1).trans (xk k hk), by have := h.2; simp; omega⟩
      refine ⟨_, _, hr, .inl ⟨rfl, ⟨hI _ _ _ hi' (.put _ (by omega) y1 (Ln _ _)), ?_, World.putObj_heap_same ylt, (World.putObj_heap_other (by omega)).trans y2⟩, kk A hAw hka, kk B hBw hkb, kk C hCw hkc⟩⟩
      have := hka.2; simp; omega
    · obtain ⟨hr, y1, y2⟩ := fin (some .ret) Y hY
      have ylt := (Array.getElem?_eq_some_iff.1 y1).1
      exact ⟨_, _, hr, .inr ⟨rfl, hIx _ _ _ hi' (.put _ (by omega) y1 (Ln _ _)), World.putObj_heap_same ylt, (World.putObj_heap_other (by omega)).trans y2⟩⟩
  · rintro e W2 ⟨⟨v, rfl⟩, (⟨hi, _, hl, hk⟩ | ⟨pre, x, rest, hp, hi, hl, hk⟩)⟩
    · have hl' := hl
      rw [hL] at hl'
      exact ⟨none, _, run_endLoop hl' (by simp), hdone _ _ (Nat.le_refl _) (hI _ _ _ hi (.put _ (by omega) hl (Ln _ _))) ((World.putObj_heap_other (by omega)).trans hk)⟩
    · have hl' := hl
      rw [hL] at hl'
      exact ⟨some .ret, _, run_endLoop hl' (by simp), hstop _ pre x rest _ (Nat.le_refl _) hp (hIx _ _ _ hi (.put _ (by omega) hl (Ln _ _))) ((World.putObj_heap_other (by omega)).trans hk)⟩
#print axioms wpIn_split
end Go.Proofs.YtpmpapenjcemjaaGreatDoor
