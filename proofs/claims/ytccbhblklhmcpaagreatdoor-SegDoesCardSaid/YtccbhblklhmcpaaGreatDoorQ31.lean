/- seg.Parse. No condition but on sizes, and what some package variables hold. -/
import Derived.Test.YtccbhblklhmcpaaGreatDoorQ30
namespace Go.Proofs.YtccbhblklhmcpaaGreatDoor
set_option linter.unusedSimpArgs false
set_option linter.unusedVariables false
open Go Go.RowKit Go.Shelf
attribute [local go_sem] Nat.add_assoc Nat.add_lt_add_iff_left lit_lt_add

theorem Turn.low {nb B : Nat} {W V : World} (h : Turn nb B W V) (hB : nb ≤ B) : Below nb W V := ⟨h.os, h.tape, h.output, h.size, fun j hj => h.block j hj (by omega)⟩
theorem RowK.low {α : Type} {D : EK α} {W : World} {n k : Nat} {v : Value} {xs : List α} (h : RowK D n W v xs) (hk : k ≤ n) : RowK D k W v xs := by
  obtain ⟨h0, h | ⟨g, cap, cur, h1, h2, h3⟩⟩ := h
  · exact ⟨h0, .inl h⟩
  · exact ⟨h0, .inr ⟨g, cap, cur, h1, Nat.le_trans hk h2, h3⟩⟩
theorem isFault (w : World) (v : Value) : Sem.run Tryz.prog (Instr.typeAssert (.iface 44 v) 41 44 true) w = .ok (.tuple #[v, .bool true]) w := by
  simp [Instr.typeAssert, Tryz.underlying44, go_sem]
/-- What reading a signal hands back. -/
def parseC (W : World) (o : List Sg × Nat × Nat) (e : Ending) (W' : World) : Prop := Below W.heap.size W W' ∧ ∃ lv : Value, e = .returned (.tuple #[lv, .int .i64 o.2.1, .int .i64 o.2.2]) ∧ RowK sgD W.heap.size W' lv o.1
set_option maxRecDepth 10000 in
set_option maxHeartbeats 400000 in
theorem parse_any (W : World) (q : Option Addr) (c : Nat) (N : List (List UInt8)) (S : List UInt8) (hQ : SlS W q N) (hL : Laid W) (hN : N.length ≤ 100000) (hX : ∀ x, x ∈ N → x.length ≤ 140737488355328) (hq : ∀ A o, q = some ⟨A, o, none⟩ → A < W.heap.size) :
    Calls Tryz.prog 5 #[.slice q N.length c, .string (bs S)] W (parseC W (parseS N S)) := by
  have NM := Lib.hid (tnames_any q c N W hQ hL hN hX)
  have hsz := bs_size S
  by_cases hm : mayNames N = true
  · rw [if_pos hm] at NM
    by_cases h4 : 4096 < S.length
    · have e : parseS N S = ([], 0, 3) := by unfold parseS; rw [if_neg (by rw [hm]; simp), if_pos h4]
      rw [e]
      obtain ⟨T, hT⟩ : ∃ T, T = bs S := ⟨_, rfl⟩
      rw [← hT] at hsz ⊢
      have j : (4096 : Int) < (T.size : Int) := by omega
      obtain ⟨n, hn⟩ : ∃ n, n = N.length := ⟨_, rfl⟩
      rw [← hn] at NM ⊢
      clear hQ hL hN hX hm h4 e hsz hT hn
      go_enter Tryz.func5, Tryz.ntmps5
      go_wp2_with (fail)
      refine NM.out.mono ?_; rintro e w' ⟨rfl, q1, rfl⟩
      go_wp2_with (fail)
      go_ret3
      exact ⟨by (repeat' (first | (with_reducible assumption) | (with_reducible exact Below.refl _ _) | (with_reducible refine below_wov ?_ ?_ _) | (with_reducible refine below_drewN ?_ _) | (with_reducible refine Below.drew ?_) | (with_reducible refine Below.alloc ?_ ?_ _) | (with_reducible refine Below.setCell ?_ ?_ _) | (with_reducible exact Nat.le_refl _) | omega | (simp only [World.size_alloc, World.size_setCell, World.size_drew, Wov_size, World.heap_drewN]; omega))), _, rfl, RowK.nil _ _⟩
    · rw [parseS_eq N S hm h4]
      have h8 : N.length ≤ 8 := by
        unfold mayNames at hm
        simp only [Bool.and_eq_true, decide_eq_true_eq] at hm
        exact hm.1.1
      have AL : Hid (∀ W' B, Below W.heap.size W W' → W.heap.size ≤ B → RdI W' B (.slice q N.length c) (bs S) 0 → Calls Tryz.prog 11 #[.pointer (some ⟨B, 0, none⟩)] W' (allC W' B (oA N S))) := fun W' B h1 h2 h3 => by
        by_cases hs : S = []
        · subst hs; exact all_none W' B _ h3
        · have := all_any W' B q c N S h3 (by omega) h8 (hQ.below h1) (fun A o e => by have := hq A o e; omega) W h1 h2 hL hs
          unfold oA; rw [if_neg hs]; exact this
      have GO := Lib.hid (oA_good N S)
      have CK : Hid (∀ W' p c', (oA N S).2.2 = 0 → SlK sgD W' p (oA N S).1 → Calls Tryz.prog 12 #[.int .i64 N.length, .slice p (oA N S).1.length c'] W' (Gives W' (.int .i64 (checkS N.length (oA N S).1)))) := fun W' p c' h0 h1 => by
        obtain ⟨g1, g2⟩ := oA_good N S h0
        refine segChecked_any W' p c' N.length _ h1 h8 (fun s hs => ?_) (fun s hs => ?_) (by omega)
        · have h1 := (g1 s hs).2.2
          have h2 : 2 ^ N.length ≤ 2 ^ 8 := Nat.pow_le_pow_right (by decide) h8
          omega
        · have h1 := g1 s hs; omega
      obtain ⟨o, ho⟩ : ∃ o, o = oA N S := ⟨_, rfl⟩
      rw [← ho] at AL GO CK ⊢
      obtain ⟨T, hT⟩ : ∃ T, T = bs S := ⟨_, rfl⟩
      rw [← hT] at hsz AL ⊢
      have j : (T.size : Int) ≤ 4096 := by omega
      obtain ⟨n, hn⟩ : ∃ n, n = N.length := ⟨_, rfl⟩
      rw [← hn] at NM CK AL ⊢
      obtain ⟨k, hk⟩ : ∃ k, k = checkS n o.1 := ⟨_, rfl⟩
      rw [← hk] at CK ⊢
      have HK := Lib.hid hk
      obtain ⟨P, hP⟩ : ∃ P, P = (if o.2.2 ≠ 0 then (([], o.2.1, o.2.2) : List Sg × Nat × Nat) else if k ≠ 0 then ([], 0, k) else (o.1, 0, 0)) := ⟨_, rfl⟩
      rw [← hP]
      have HP := Lib.hid hP
      clear hP hQ hL hN hX hm h4 hsz hT hn h8 ho hk
      go_enter Tryz.func5, Tryz.ntmps5
      go_wp2_with (fail)
      refine NM.out.mono ?_; rintro e w' ⟨rfl, q1, rfl⟩
      go_wp2_with (fail)
      refine (AL.out _ _ (by (repeat' (first | (with_reducible assumption) | (with_reducible exact Below.refl _ _) | (with_reducible refine below_wov ?_ ?_ _) | (with_reducible refine below_drewN ?_ _) | (with_reducible refine Below.drew ?_) | (with_reducible refine Below.alloc ?_ ?_ _) | (with_reducible refine Below.setCell ?_ ?_ _) | (with_reducible exact Nat.le_refl _) | omega | (simp only [World.size_alloc, World.size_setCell, World.size_drew, Wov_size, World.heap_drewN]; omega)))) (by simp [go_sem]) ?_).mono ?_
      · exact ⟨by simp [Wov_size], by simp [go_sem], by simp [go_sem], by simp [go_sem], by simp [go_sem]⟩
      rintro e W2 ⟨hT, lv, ev, rfl, hev, hrow⟩
      have HB : Hid (Below W.heap.size W W2) := Lib.hid (((Turn.of (show Below W.heap.size W _ by (repeat' (first | (with_reducible assumption) | (with_reducible exact Below.refl _ _) | (with_reducible refine below_wov ?_ ?_ _) | (with_reducible refine below_drewN ?_ _) | (with_reducible refine Below.drew ?_) | (with_reducible refine Below.alloc ?_ ?_ _) | (with_reducible refine Below.setCell ?_ ?_ _) | (with_reducible exact Nat.le_refl _) | omega | (simp only [World.size_alloc, World.size_setCell, World.size_drew, Wov_size, World.heap_drewN]; omega))))).trans (hT.mono (by simp only [World.size_alloc, Wov_size]; omega))).low (by omega))
      rcases hev with ⟨h0, rfl⟩ | ⟨h0, Nf, rfl, hb, hlt, f0, f1⟩
      · have HROW := Lib.hid (hrow h0)
        obtain ⟨p1, cp1, rfl, _, _, hsl⟩ := RowK.sl sgD_ok HROW.out
        have C1 : Hid (∀ W', Below W2.heap.size W2 W' → Calls Tryz.prog 12 #[.int .i64 n, .slice p1 o.1.length cp1] W' (Gives W' (.int .i64 k))) := fun W' h => CK.out W' p1 cp1 h0 (hsl.below h)
        obtain ⟨m, hm⟩ : ∃ m, m = o.1.length := ⟨_, rfl⟩
        rw [← hm] at C1 HROW ⊢
        clear hrow hT hsl hm
        by_cases hk : k = 0
        · subst hk
          have hp : P = (o.1, 0, 0) := by rw [HP.out, if_neg (by rw [h0]; simp), if_neg (by simp)]
          subst hp
          go_wp2_with (fail)
          refine (C1.out _ (by (repeat' (first | (with_reducible assumption) | (with_reducible exact Below.refl _ _) | (with_reducible refine below_wov ?_ ?_ _) | (with_reducible refine below_drewN ?_ _) | (with_reducible refine Below.drew ?_) | (with_reducible refine Below.alloc ?_ ?_ _) | (with_reducible refine Below.setCell ?_ ?_ _) | (with_reducible exact Nat.le_refl _) | omega | (simp only [World.size_alloc, World.size_setCell, World.size_drew, Wov_size, World.heap_drewN]; omega))))).mono ?_; rintro e w' ⟨rfl, q2, rfl⟩
          go_wp2_with (fail)
          go_ret3
          exact ⟨HB.out.trans (Below.mono (show Below W2.heap.size W2 _ by (repeat' (first | (with_reducible assumption) | (with_reducible exact Below.refl _ _) | (with_reducible refine below_wov ?_ ?_ _) | (with_reducible refine below_drewN ?_ _) | (with_reducible refine Below.drew ?_) | (with_reducible refine Below.alloc ?_ ?_ _) | (with_reducible refine Below.setCell ?_ ?_ _) | (with_reducible exact Nat.le_refl _) | omega | (simp only [World.size_alloc, World.size_setCell, World.size_drew, Wov_size, World.heap_drewN]; omega)))) HB.out.size), _, rfl, RowK.below (RowK.low HROW.out (by simp only [World.size_alloc, Wov_size]; omega)) (by (repeat' (first | (with_reducible assumption) | (with_reducible exact Below.refl _ _) | (with_reducible refine below_wov ?_ ?_ _) | (with_reducible refine below_drewN ?_ _) | (with_reducible refine Below.drew ?_) | (with_reducible refine Below.alloc ?_ ?_ _) | (with_reducible refine Below.setCell ?_ ?_ _) | (with_reducible exact Nat.le_refl _) | omega | (simp only [World.size_alloc, World.size_setCell, World.size_drew, Wov_size, World.heap_drewN]; omega))))⟩
        · have hp : P = ([], 0, k) := by rw [HP.out, if_neg (by rw [h0]; simp), if_pos hk]
          subst hp
          have hk' : ¬ (k : Int) = 0 := by omega
          go_wp2_with (fail)
          refine (C1.out _ (by (repeat' (first | (with_reducible assumption) | (with_reducible exact Below.refl _ _) | (with_reducible refine below_wov ?_ ?_ _) | (with_reducible refine below_drewN ?_ _) | (with_reducible refine Below.drew ?_) | (with_reducible refine Below.alloc ?_ ?_ _) | (with_reducible refine Below.setCell ?_ ?_ _) | (with_reducible exact Nat.le_refl _) | omega | (simp only [World.size_alloc, World.size_setCell, World.size_drew, Wov_size, World.heap_drewN]; omega))))).mono ?_; rintro e w' ⟨rfl, q2, rfl⟩
          go_wp2_with (fail)
          go_ret3
          exact ⟨HB.out.trans (Below.mono (show Below W2.heap.size W2 _ by (repeat' (first | (with_reducible assumption) | (with_reducible exact Below.refl _ _) | (with_reducible refine below_wov ?_ ?_ _) | (with_reducible refine below_drewN ?_ _) | (with_reducible refine Below.drew ?_) | (with_reducible refine Below.alloc ?_ ?_ _) | (with_reducible refine Below.setCell ?_ ?_ _) | (with_reducible exact Nat.le_refl _) | omega | (simp only [World.size_alloc, World.size_setCell, World.size_drew, Wov_size, World.heap_drewN]; omega)))) HB.out.size), _, rfl, RowK.nil _ _⟩
      · have hp : P = ([], o.2.1, o.2.2) := by rw [HP.out, if_pos h0]
        subst hp
        clear hrow hT hb
        have TA := fun w => isFault w (.pointer (some ⟨Nf, 0, none⟩))
        go_wp2_with (fail)
        refine wp_region_wov (by kernel_rfl) (by kernel_rfl) ?_
        repeat (go_big_quiet_step (fail))
        refine wpQuiet_nil ?_
        rintro _ ⟨pq, rfl⟩
        go_wp2_with (fail)
        go_ret3
        exact ⟨HB.out.trans (Below.mono (show Below W2.heap.size W2 _ by (repeat' (first | (with_reducible assumption) | (with_reducible exact Below.refl _ _) | (with_reducible refine below_wov ?_ ?_ _) | (with_reducible refine below_drewN ?_ _) | (with_reducible refine Below.drew ?_) | (with_reducible refine Below.alloc ?_ ?_ _) | (with_reducible refine Below.setCell ?_ ?_ _) | (with_reducible exact Nat.le_refl _) | omega | (simp only [World.size_alloc, World.size_setCell, World.size_drew, Wov_size, World.heap_drewN]; omega)))) HB.out.size), _, rfl, RowK.nil _ _⟩
  · rw [if_neg hm] at NM
    have e : parseS N S = ([], 0, 2) := by unfold parseS; rw [if_pos (by simpa using hm)]
    rw [e]
    obtain ⟨T, hT⟩ : ∃ T, T = bs S := ⟨_, rfl⟩
    rw [← hT]
    obtain ⟨n, hn⟩ : ∃ n, n = N.length := ⟨_, rfl⟩
    rw [← hn] at NM ⊢
    clear hQ hL hN hX hm e hsz hT hn
    go_enter Tryz.func5, Tryz.ntmps5
    go_wp2_with (fail)
    refine NM.out.mono ?_; rintro e w' ⟨rfl, q1, rfl⟩
    go_wp2_with (fail)
    go_ret3
    exact ⟨by (repeat' (first | (with_reducible assumption) | (with_reducible exact Below.refl _ _) | (with_reducible refine below_wov ?_ ?_ _) | (with_reducible refine below_drewN ?_ _) | (with_reducible refine Below.drew ?_) | (with_reducible refine Below.alloc ?_ ?_ _) | (with_reducible refine Below.setCell ?_ ?_ _) | (with_reducible exact Nat.le_refl _) | omega | (simp only [World.size_alloc, World.size_setCell, World.size_drew, Wov_size, World.heap_drewN]; omega))), _, rfl, RowK.nil _ _⟩
#print axioms parse_any
end Go.Proofs.YtccbhblklhmcpaaGreatDoor
