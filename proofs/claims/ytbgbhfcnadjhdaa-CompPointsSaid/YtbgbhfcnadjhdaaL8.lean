/- Contracts of proj.Drop's closure and of proj.made over it. No condition but that the places lie in the matrix. -/
import Derived.Test.YtbgbhfcnadjhdaaL6
namespace Go.Proofs.Ytbgbhfcnadjhdaa
set_option linter.unusedSimpArgs false
set_option linter.unusedVariables false
open Go Go.RowKit Go.Shelf
attribute [local go_sem] Nat.add_assoc Nat.add_lt_add_iff_left lit_lt_add

set_option maxRecDepth 10000 in
set_option maxHeartbeats 1000000 in
theorem drop1_any (i j a b n m A L B c : Nat) (w : World) (hA : w.cell? ⟨A, 0, none⟩ = some (.slice (some ⟨L, 0, none⟩) m c)) (hB : w.cell? ⟨B, 0, none⟩ = some (.int .i64 n)) (hi : w.cell? ⟨L, i, none⟩ = some (.int .i64 a)) (hj : w.cell? ⟨L, j, none⟩ = some (.int .i64 b)) (li : i < m) (lj : j < m) (hm : m ≤ 16) (hn : n ≤ 16) (ha : a ≤ 16) (hb : b ≤ 16) :
    Calls Try.prog 99 #[.int .i64 i, .int .i64 j, .pointer (some ⟨A, 0, none⟩), .pointer (some ⟨B, 0, none⟩)] w (Gives w (.int .i64 ((a * n + b : Nat) : Int))) := by
  have hM : a * n ≤ 16 * 16 := Nat.mul_le_mul ha hn
  obtain ⟨p, hp⟩ : ∃ p : Nat, p = a * n := ⟨_, rfl⟩
  have w1 : IntKind.i64.wrap ((a : Int) * (n : Int)) = (p : Int) := by
    rw [show (a : Int) * (n : Int) = ((p : Nat) : Int) by rw [hp]; push_cast; rfl, IntKind.wrap_i64]; omega
  have w2 : IntKind.i64.wrap ((p : Int) + (b : Int)) = ((p + b : Nat) : Int) := by rw [IntKind.wrap_i64]; omega
  have i0 : (0 : Int) ≤ (i : Int) := by omega
  have i1 : (i : Int) < (m : Int) := by omega
  have j0 : (0 : Int) ≤ (j : Int) := by omega
  have j1 : (j : Int) < (m : Int) := by omega
  have HP := Lib.hid hp
  rw [← hp]
  clear hp hM
  go_enter Try.func99, Try.ntmps99
  go_wp2
  go_quiet (fail)
  go_wp2
  go_ret
  exact gives_int rfl (by (repeat' (first | (with_reducible assumption) | (with_reducible exact Below.refl _ _) | (with_reducible refine below_wov ?_ ?_ _) | (with_reducible refine below_drewN ?_ _) | (with_reducible refine Below.drew ?_) | (with_reducible refine Below.alloc ?_ ?_ _) | (with_reducible refine Below.setCell ?_ ?_ _) | (with_reducible exact Nat.le_refl _) | omega | (simp only [World.size_alloc, World.size_setCell, World.size_drew, Wov_size, World.heap_drewN]; omega))))
/-- Cells, turned one by one; those that are not yet, are 0. -/
def madeF (g : Nat → Int) (t : Nat) : Nat → Int := fun x => if x < t then g x else 0
theorem HoldsI.congr {W : World} {B N : Nat} {f g : Nat → Int} (h : HoldsI W B N f) (e : ∀ x, x < N → f x = g x) : HoldsI W B N g := fun x hx => by rw [← e x hx]; exact h x hx
theorem madeF_step (g : Nat → Int) (t : Nat) (v : Int) : ∀ x, upd (upd (madeF g t) t v) t (g t) x = madeF g (t + 1) x := fun x => by
  unfold upd madeF
  by_cases h : x = t
  · subst h; rw [if_pos rfl, if_pos (by omega)]
  · rw [if_neg h, if_neg h]
    by_cases h2 : x < t
    · rw [if_pos h2, if_pos (by omega)]
    · rw [if_neg h2, if_neg (by omega)]
theorem holds_made (W : World) (N : Nat) (t : TypeId) : HoldsI (W.alloc (.cells (madeCells #[.int .i64 0] N) t)) W.heap.size N (fun _ => 0) := fun x hx => by
  have hc : (madeCells #[.int .i64 0] N)[x]? = some (.int .i64 0) := by
    have h := toList_madeCells_one (.int .i64 0) N
    rw [← Array.getElem?_toList, h]
    simp [hx]
  constructor
  · simp [go_sem, hc]
  · simp [go_sem]
theorem gives_wov {P : Program} {f : FuncId} {args : Array Value} {v : Value} {V : World} {p : Gr} (h : Calls P f args (Wov V p) (Gives (Wov V p) v)) : Calls P f args (Wov V p) fun e w'' => e = .returned v ∧ ∃ q, w'' = Wov V q :=
  h.mono fun _ _ ⟨he, q, hq⟩ => ⟨he, ⟨p.bl ++ q.bl, q.dr⟩, by rw [hq, Wov_Wov]⟩
/-- A matrix of places of another one. -/
def fromG (n m : Nat) (s : Nat → Nat) (c : Nat → Int) : Nat → Int := fun x => c (s (x / m) * n + s (x % m))
set_option maxRecDepth 10000 in
set_option maxHeartbeats 4000000 in
theorem pmade_any (n m M A L B cl cap : Nat) (p : Option Addr) (c : Nat → Int) (s : Nat → Nat) (w : World) (hM : M = n * n) (hA : w.cell? ⟨A, 0, none⟩ = some (.slice (some ⟨L, 0, none⟩) m cl)) (hB : w.cell? ⟨B, 0, none⟩ = some (.int .i64 n)) (hL : HoldsI w L m (fun i => (s i : Nat))) (hs : ∀ i, i < m → s i < n) (hn : n ≤ 4) (hm0 : 1 ≤ m) (hm : m ≤ 4) (hS : SlP w p M c) :
    Calls Try.prog 98 #[.agg #[.int .i64 n, .slice p M cap], .int .i64 m, .func (.func 99) #[] #[.pointer (some ⟨A, 0, none⟩), .pointer (some ⟨B, 0, none⟩)]] w (rowPost w m (m * m) (fromG n m s c)) := by
  have hn0 : 0 < n := Nat.lt_of_le_of_lt (Nat.zero_le _) (hs 0 (by omega))
  have hnn : 1 * 1 ≤ n * n := Nat.mul_le_mul hn0 hn0
  have hnn4 : n * n ≤ 4 * 4 := Nat.mul_le_mul hn hn
  have hmm : 1 * 1 ≤ m * m := Nat.mul_le_mul hm0 hm0
  have hmm4 : m * m ≤ 4 * 4 := Nat.mul_le_mul hm hm
  obtain ⟨P, o, rfl, hP, hc⟩ := hS.resolve_left (by omega)
  have DR : Hid (∀ x, x < m * m → s (x / m) * n + s (x % m) < n * n ∧ ∀ W, Below w.heap.size w W → Calls Try.prog 99 #[.int .i64 ((x / m : Nat) : Int), .int .i64 ((x % m : Nat) : Int), .pointer (some ⟨A, 0, none⟩), .pointer (some ⟨B, 0, none⟩)] W (Gives W (.int .i64 ((s (x / m) * n + s (x % m) : Nat) : Int)))) := fun x hx => by
    have h1 : x / m < m := Nat.div_lt_of_lt_mul hx
    have h2 : x % m < m := Nat.mod_lt _ (by omega)
    have s1 := hs _ h1
    have s2 := hs _ h2
    refine ⟨place_lt s1 s2, fun W hW => ?_⟩
    have lA := World.block_lt_of_cell? w _ hA
    have lB := World.block_lt_of_cell? w _ hB
    have lL := hL.block_lt (by omega)
    exact drop1_any (x / m) (x % m) (s (x / m)) (s (x % m)) n m A L B cl W ((hW.cell (p := ⟨A, 0, none⟩) lA).trans hA) ((hW.cell (p := ⟨B, 0, none⟩) lB).trans hB) ((hW.cell (p := ⟨L, x / m, none⟩) lL).trans (hL _ h1).1) ((hW.cell (p := ⟨L, x % m, none⟩) lL).trans (hL _ h2).1) h1 h2 (by omega) (by omega) (by omega) (by omega)
  obtain ⟨i0, hi, hz0, hz1, hz2⟩ := info_parts infoB
  obtain ⟨N, hN⟩ : ∃ N, N = m * m := ⟨_, rfl⟩
  have hmk : ∀ w : World, (Instr.makeSlice 57 (.int .i64 (N : Int)) (.int .i64 (N : Int))).run Try.prog w = .ok (.slice (some ⟨w.heap.size, 0, none⟩) N N) (w.alloc (.cells (madeCells #[.int .i64 0] N) 22)) := fun w => by
    have := run_make (P := Try.prog) w 57 22 i0 (.int .i64 0) Try.underlying57 hi hz0 .i64 .i64 (N : Int) (N : Int) (by omega) (Int.le_refl _) (by rw [hz2]; omega) (by omega)
    rw [hz1] at this
    simpa [Value.cells] using this
  have w1 : IntKind.i64.wrap ((m : Int) * (m : Int)) = (N : Int) := by
    rw [show (m : Int) * (m : Int) = (N : Int) by rw [hN]; push_cast; rfl, IntKind.wrap_i64]; omega
  have HG : Hid (∀ x, fromG n m s c x = c (s (x / m) * n + s (x % m))) := fun x => rfl
  obtain ⟨G, hG⟩ : ∃ G, G = fromG n m s c := ⟨_, rfl⟩
  rw [← hG] at HG ⊢
  have HC := Lib.hid hc
  have HN := Lib.hid hN
  rw [← hN] at DR hmm hmm4 ⊢
  rw [← hM] at DR hnn hnn4
  have m0 : ((m : Int) == 0) = false := by rw [beq_eq_false_iff_ne]; omega
  clear hc hL hs hG hi hz0 hz1 hz2 hA hB hS hN hM
  go_enter Try.func98, Try.ntmps98
  go_wp2
  refine wp_world (fun W => Below w.heap.size w W ∧ BoxM W w.heap.size n (some ⟨P, o, none⟩) M cap c ∧ ResM W (w.heap.size + 1) ∧ w.heap.size + 3 < W.heap.size ∧ W.cell? ⟨w.heap.size + 3, 0, none⟩ = some (.int .i64 m) ∧ W.cell? ⟨w.heap.size + 3, 1, none⟩ = some (.slice (some ⟨w.heap.size + 2, 0, none⟩) N N) ∧ HoldsI W (w.heap.size + 2) N (fun _ => 0)) ⟨by (repeat' (first | (with_reducible assumption) | (with_reducible exact Below.refl _ _) | (with_reducible refine below_wov ?_ ?_ _) | (with_reducible refine below_drewN ?_ _) | (with_reducible refine Below.drew ?_) | (with_reducible refine Below.alloc ?_ ?_ _) | (with_reducible refine Below.setCell ?_ ?_ _) | (with_reducible exact Nat.le_refl _) | omega | (simp only [World.size_alloc, World.size_setCell, World.size_drew, Wov_size, World.heap_drewN]; omega))), ?c1, ⟨by simp, by simp [go_sem], by simp [go_sem], by simp [go_sem], by simp [go_sem]⟩, by simp, by simp [go_sem], by simp [go_sem], ?c2⟩ ?_
  case c1 => exact (BoxM.new (W := w) (t := 59) (.inr ⟨P, o, rfl, hP, HC.out⟩) rfl).below (by (repeat' (first | (with_reducible assumption) | (with_reducible exact Below.refl _ _) | (with_reducible refine below_wov ?_ ?_ _) | (with_reducible refine below_drewN ?_ _) | (with_reducible refine Below.drew ?_) | (with_reducible refine Below.alloc ?_ ?_ _) | (with_reducible refine Below.setCell ?_ ?_ _) | (with_reducible exact Nat.le_refl _) | omega | (simp only [World.size_alloc, World.size_setCell, World.size_drew, Wov_size, World.heap_drewN]; omega))))
  case c2 =>
    have h := holds_made ((w.alloc (.cells #[.int .i64 n, .slice (some ⟨P, o, none⟩) M cap] 59)).alloc (.cells #[.int .i64 0, .slice none 0 0] 59)) N 22
    simp only [World.size_alloc] at h
    exact h.below ((Below.refl _ _).alloc (Nat.le_refl _) _) (by simp)
  rintro X ⟨hb, m1, r1, l3, k0, k1, hH⟩
  have hsX := hb.size
  have HB := Lib.hid hb
  have HH := Lib.hid hH
  have lX := m1.lt
  have HM1 := Lib.hid m1
  have HR1 := Lib.hid r1
  clear hb m1 r1 hH hmk w1
  go_loopw [19] (fun i wr => ∃ t : Nat, t ≤ N ∧ i = .int .i64 t ∧ Chg X (w.heap.size + 2) wr ∧ Hid (HoldsI wr (w.heap.size + 2) N (madeF G t)))
    (fun i _ => N - (intOf i).toNat)
  case atStart => exact ⟨0, by omega, rfl, Chg.refl _ _, HH.out⟩
  case round =>
    obtain ⟨t, ht, rfl, hc, hHt⟩ := hrel
    have hsr := hc.size
    by_cases hlt : t < N
    · obtain ⟨hq, DC⟩ := DR.out t hlt
      have hg := HG.out t
      obtain ⟨q, hqe⟩ : ∃ q, q = s (t / m) * n + s (t % m) := ⟨_, rfl⟩
      rw [← hqe] at hq DC hg
      have DC2 := Lib.hid DC
      have HGT := Lib.hid hg
      obtain ⟨u, hu⟩ : ∃ u : Int, u = ((t / m : Nat) : Int) := ⟨_, rfl⟩
      obtain ⟨v, hv⟩ : ∃ v : Int, v = ((t % m : Nat) : Int) := ⟨_, rfl⟩
      rw [← hu, ← hv] at DC2
      have d1 : wrap64 ((t : Int) / (m : Int)) = u := by
        have hu2 := Nat.div_le_self t m
        rw [← Int.natCast_ediv, hu]
        generalize t / m = u at hu2
        exact wrap64_id (by omega) (by omega)
      have d2 : (t : Int) % (m : Int) = v := by rw [hv]; rfl
      clear hu hv
      have HHt := Lib.hid hHt.out
      have HCC := Lib.hid hc
      have c0 := (hHt.out t hlt).1
      have f0 := (hHt.out t hlt).2
      have e0 := (hc.cell (x := 0) (b := w.heap.size + 3) l3 (by omega)).trans k0
      have e1 := (hc.cell (x := 1) (b := w.heap.size + 3) l3 (by omega)).trans k1
      have e2 := (hc.cell (x := 1) (b := w.heap.size) lX (by omega)).trans HM1.out.c1
      have t0 : (0 : Int) ≤ (t : Int) := by omega
      have t1 : (t : Int) < (N : Int) := by omega
      clear DC hg hqe hHt hc HG DR
      go_wp2
      refine wp_world (fun V => Below w.heap.size w V ∧ Chg X (w.heap.size + 2) V ∧ HoldsI V (w.heap.size + 2) N (upd (madeF G t) t 9223372036854775807)) ⟨(HB.out.trans ((HCC.out.belowAt (by omega) hsX))).setCell (by simp) _, HCC.out.trans (Chg.set _ _ _ _), HHt.out.set hlt _⟩ ?_
      rintro V ⟨hbV, hcV, hHV⟩
      have hsV := hcV.size
      have HD : Hid (∀ p : Gr, Calls Try.prog 99 #[.int .i64 u, .int .i64 v, .pointer (some ⟨A, 0, none⟩), .pointer (some ⟨B, 0, none⟩)] (Wov V p) fun e w'' => e = .returned (.int .i64 (q : Int)) ∧ ∃ q, w'' = Wov V q) := fun p => gives_wov (DC2.out _ (hbV.trans ((below_Wov V p).mono hbV.size)))
      have v0 := (hcV.cell (x := 0) (b := w.heap.size + 3) l3 (by omega)).trans k0
      have v1 := (hcV.cell (x := 1) (b := w.heap.size + 3) l3 (by omega)).trans k1
      have v2 := (hcV.cell (x := 1) (b := w.heap.size) lX (by omega)).trans HM1.out.c1
      have v3 := (hbV.cell (p := ⟨P, o + q, none⟩) hP).trans (HC.out q hq)
      have v4 : V.cell? ⟨w.heap.size + 2, t, none⟩ = some (.int .i64 9223372036854775807) := by
        have h := (hHV t hlt).1
        unfold upd at h
        rwa [if_pos rfl] at h
      have v5 := (hHV t hlt).2
      have HHV := Lib.hid hHV
      have HCV := Lib.hid hcV
      have q0 : (0 : Int) ≤ (q : Int) := by omega
      have q1 : (q : Int) < (M : Int) := by omega
      have lP : P < V.heap.size := Nat.lt_of_lt_of_le hP hbV.size
      have lO : w.heap.size + 2 < V.heap.size := by omega
      clear DC2 HHt HCC c0 f0 e0 e1 e2 hHV hcV hbV k0 k1 hsr HM1
      refine wp_region_wov (by kernel_rfl) (by kernel_rfl) ?_
      repeat (go_big_quiet_step ((go_at_call 99; exact HD.out _)))
      refine wpQuiet_nil ?_
      rintro _ ⟨pq, rfl⟩
      clear HD d1 d2
      go_wp2
      go_region
      go_wp2
      go_roundw
      case rel =>
        refine ⟨t + 1, by omega, by go_num, ?_, ?_⟩
        · exact ((HCV.out.trans (Chg.wov V _ pq)).trans (Chg.set _ _ _ _)).trans (Chg.drew _ _)
        · have h5 : HoldsI (Wov V pq) (w.heap.size + 2) N (upd (madeF G t) t 9223372036854775807) := HHV.out.below (below_Wov V pq) lO
          have h6 := h5.set hlt (c q)
          rw [← HGT.out] at h6 ⊢
          exact (h6.congr (fun x _ => madeF_step G t _ x)).of_block rfl
      case measure => simp [intOf]; omega
    · obtain rfl : t = N := by omega
      have HHt := Lib.hid hHt.out
      have HCC := Lib.hid hc
      have e0 := (hc.cell (x := 0) (b := w.heap.size + 3) l3 (by omega)).trans k0
      have e1 := (hc.cell (x := 1) (b := w.heap.size + 3) l3 (by omega)).trans k1
      have r0 := (hc.cell (x := 0) (b := w.heap.size + 1) HR1.out.lt (by omega)).trans HR1.out.c0
      have r1 := (hc.cell (x := 1) (b := w.heap.size + 1) HR1.out.lt (by omega)).trans HR1.out.c1
      have z0 := (hc.frozen (x := 0) (b := w.heap.size + 1) HR1.out.lt (by omega)).trans HR1.out.z0
      have z1 := (hc.frozen (x := 1) (b := w.heap.size + 1) HR1.out.lt (by omega)).trans HR1.out.z1
      have lr : w.heap.size + 1 < wr.heap.size := by omega
      clear hHt hc HG DR k0 k1
      go_wp2
      refine bodyPost_ret (by simp [results, Try.results98, go_sem, r0, r1, lr]; try rfl) rfl ?_
      refine ⟨w.heap.size + 2, t, rfl, by omega, ?_, ?_, Wov_of_below ?_⟩
      · simp [World.setCell]; omega
      · exact (HHt.out.congr (fun x hx => by unfold madeF; rw [if_pos hx])).of_block (((Chg.set _ (w.heap.size + 1) 0 _).trans (Chg.set _ (w.heap.size + 1) 1 _)).block _ (by omega) (by omega))
      · exact ((HB.out.trans (HCC.out.belowAt (by omega) hsX)).setCell (by simp) _).setCell (by simp) _
end Go.Proofs.Ytbgbhfcnadjhdaa
